/-
  CONTRACT: the rose with shares that sum to one, in the program.
-/
import Derived.Test.YtebhefbpkcpnjaaBox
import Derived.Test.YtebhefbpkcpnjaaSum
namespace Go.Proofs.Ytebhefbpkcpnjaa
open Go.RowKit Go.Flt
set_option linter.unusedVariables false
set_option maxRecDepth 100000
set_option linter.unusedSimpArgs false

/-- The first k numbers, divided. -/
def quoL (xs : List Nat) (a : Ieee.Datum) (k : Nat) : List Ieee.Datum := (List.range k).map fun j => fop .quo .f32 (cl .f32 (xs.getD j 0)) a

theorem quoL_succ (xs : List Nat) (a : Ieee.Datum) (k : Nat) : quoL xs a (k + 1) = quoL xs a k ++ [fop .quo .f32 (cl .f32 (xs.getD k 0)) a] := by simp [quoL, List.range_succ]

theorem quoL_len (xs : List Nat) (a : Ieee.Datum) (k : Nat) : (quoL xs a k).length = k := by simp [quoL]

/-- The first k divided, the rest as it was. -/
def quoM (xs : List Nat) (a : Ieee.Datum) (k : Nat) : List Ieee.Datum := quoL xs a k ++ (xs.drop k).map (cl .f32)

theorem quoM_zero (xs : List Nat) (a : Ieee.Datum) : quoM xs a 0 = xs.map (cl .f32) := by simp [quoM, quoL]

theorem quoM_end (xs : List Nat) (a : Ieee.Datum) : quoM xs a xs.length = quoL xs a xs.length := by simp [quoM]

theorem quoM_at {xs : List Nat} {a : Ieee.Datum} {k : Nat} (h : k < xs.length) : (quoM xs a k)[k]? = some (cl .f32 (xs.getD k 0)) := by
  unfold quoM
  rw [List.getElem?_append_right (by rw [quoL_len]; omega), quoL_len, Nat.sub_self]
  simp [h]

theorem quoM_set {xs : List Nat} {a d : Ieee.Datum} {k : Nat} (h : k < xs.length) (hd : d = fop .quo .f32 (cl .f32 (xs.getD k 0)) a) : (quoM xs a k).set k d = quoM xs a (k + 1) := by
  unfold quoM
  rw [List.set_append_right _ _ (by rw [quoL_len]; omega), quoL_len, Nat.sub_self, List.drop_eq_getElem_cons h, List.map_cons, List.set_cons_zero, quoL_succ, List.append_assoc, hd]
  rfl

def okNorm (xs ys : List Nat) : Bool := vRose xs ys && flt (cl .f32 0) (sumTo xs xs.length)

def isNorm (xs ys : List Nat) : Bool := okNorm xs ys && vRoseD (quoL xs (sumTo xs xs.length) xs.length) (ys.map (cl .f32))

set_option maxHeartbeats 4000000 in
theorem c_normBad1 (A C : Option Addr) (n cA m cC K0 : Nat) (xs ys : List Nat) (w : World) (hx : Fl w K0 A n xs) (hy : Fl w K0 C m ys) (hK : K0 ≤ w.heap.size) (hn : n ≤ maxLen) (hm : m ≤ maxLen) (k1 : vRose xs ys = false) :
    Calls Try.prog 26 #[.agg #[.slice A n cA, .slice C m cC]] w (RetR [] [] false w) := by
  obtain rfl := hx.1
  obtain rfl := hy.1
  have V1 := Lib.hid (fun w' (h : Grew w w') => c_implValidRose A C _ cA _ cC K0 xs ys w' (Slc.grew (g := Value.float .f32) hx hK h) (Slc.grew (g := Value.float .f32) hy hK h) (Nat.le_trans hK (Below.size h)) hn hm)
  clear hx hy hn hm
  rw [k1] at V1
  go_enter Try.func26, Try.ntmps26
  go_wp2_with fail
  refine (V1.out _ (by (show Below _ _ _; (repeat (first | exact Below.refl _ _ | refine ext_below ?_ (by first | omega | (simp only [size_ext, heap_push, Array.size_push, World.heap_drewN]; omega) | (simp; omega)) _ _ | refine below_draws ?_ _ | refine Below.alloc ?_ (by first | omega | (simp; done) | (simp; omega)) _ | refine Below.setCell ?_ (by first | omega | (simp; done) | (simp; omega)) _ | refine below_then (by assumption) (by first | omega | (simp; done) | (simp; omega)) ?_))))).mono ?_
  rintro e w1 ⟨rfl, hg1⟩
  have G1 := Lib.hid (grew_trans (show Grew w _ by (show Below _ _ _; (repeat (first | exact Below.refl _ _ | refine ext_below ?_ (by first | omega | (simp only [size_ext, heap_push, Array.size_push, World.heap_drewN]; omega) | (simp; omega)) _ _ | refine below_draws ?_ _ | refine Below.alloc ?_ (by first | omega | (simp; done) | (simp; omega)) _ | refine Below.setCell ?_ (by first | omega | (simp; done) | (simp; omega)) _ | refine below_then (by assumption) (by first | omega | (simp; done) | (simp; omega)) ?_)))) hg1)
  have R1 : Hid (BoxR w1 (w.heap.size + 1) (.slice none 0 0) (.slice none 0 0)) := by
    refine BoxR.grew ?_ ?_ hg1
    · refine ⟨⟨?_, ?_⟩, ?_, ?_⟩ <;> simp [go_sem]
    · simp
  have z1 : w.heap.size + 1 < w1.heap.size := by have := Below.size hg1; simp at this; omega
  clear hg1
  obtain ⟨⟨b0, b1⟩, b2, b3⟩ := R1.out
  go_wp2_with fail
  refine bodyPost_ret (v := .tuple #[ZRO, .bool false]) (by simp [results, Try.results26, go_sem, b0, b1, ZRO]) rfl ?_
  exact ⟨_, [], [], rfl, rose_nil _ _ _, rfl, rfl, (by repeat (first | (with_reducible exact G1.out) | (with_reducible exact grw_refl _) | (with_reducible refine grew_draw _ _ ?_) | (with_reducible refine grew_al ?_ _) | (with_reducible refine grew_set ?_ ?_; rotate_left; omega)))⟩

set_option maxHeartbeats 4000000 in
theorem c_normGood (A C : Option Addr) (n cA m cC K0 : Nat) (xs ys : List Nat) (w : World) (hx : Fl w K0 A n xs) (hy : Fl w K0 C m ys) (hK : K0 ≤ w.heap.size) (hn : n ≤ maxLen) (hm : m ≤ maxLen) (k1 : vRose xs ys = true) :
    Calls Try.prog 26 #[.agg #[.slice A n cA, .slice C m cC]] w (RetR (if isNorm xs ys then quoL xs (sumTo xs xs.length) xs.length else []) (if isNorm xs ys then ys.map (cl .f32) else []) (isNorm xs ys) w) := by
  obtain rfl := hx.1
  obtain rfl := hy.1
  have HX := Lib.hid (fun w' h => Slc.grew (g := Value.float .f32) (w' := w') hx hK h)
  have HY := Lib.hid (fun w' h => Slc.grew (g := Value.float .f32) (w' := w') hy hK h)
  have V1 := Lib.hid (fun w' (h : Grew w w') => c_implValidRose A C _ cA _ cC K0 xs ys w' (HX.out w' h) (HY.out w' h) (Nat.le_trans hK (Below.size h)) hn hm)
  have NN : Hid (1 ≤ xs.length ∧ xs.length ≤ 16 ∧ ys.length = xs.length) := by
    show _ ∧ _
    have V1l := k1
    rw [vRose_eq] at V1l
    simp only [Bool.and_eq_true, decide_eq_true_eq] at V1l
    omega
  have KK := Lib.hid hK
  have NM := Lib.hid hn
  have hk : isNorm xs ys = (flt (cl .f32 0) (sumTo xs xs.length) && vRoseD (quoL xs (sumTo xs xs.length) xs.length) (ys.map (cl .f32))) := by unfold isNorm okNorm; rw [k1]; rfl
  rw [hk]
  rw [k1] at V1
  generalize hS : sumTo xs xs.length = S
  have HS := Lib.hid hS
  clear hS
  generalize hF : flt (cl .f32 0) S = FF
  generalize hB : vRoseD (quoL xs S xs.length) (ys.map (cl .f32)) = BB
  generalize hD : (if (FF && BB) then quoL xs S xs.length else []) = DD
  generalize hE : (if (FF && BB) then ys.map (cl .f32) else []) = EE
  have HF := Lib.hid hF
  have HB := Lib.hid hB
  have HD := Lib.hid hD
  have HE := Lib.hid hE
  clear hx hy hn hm hK hF hB hD hE hk k1
  go_enter Try.func26, Try.ntmps26
  go_wp2_with fail
  refine (V1.out _ (by (show Below _ _ _; (repeat (first | exact Below.refl _ _ | refine ext_below ?_ (by first | omega | (simp only [size_ext, heap_push, Array.size_push, World.heap_drewN]; omega) | (simp; omega)) _ _ | refine below_draws ?_ _ | refine Below.alloc ?_ (by first | omega | (simp; done) | (simp; omega)) _ | refine Below.setCell ?_ (by first | omega | (simp; done) | (simp; omega)) _ | refine below_then (by assumption) (by first | omega | (simp; done) | (simp; omega)) ?_))))).mono ?_
  rintro e w1 ⟨rfl, hg1⟩
  have G1 := Lib.hid (grew_trans (show Grew w _ by (show Below _ _ _; (repeat (first | exact Below.refl _ _ | refine ext_below ?_ (by first | omega | (simp only [size_ext, heap_push, Array.size_push, World.heap_drewN]; omega) | (simp; omega)) _ _ | refine below_draws ?_ _ | refine Below.alloc ?_ (by first | omega | (simp; done) | (simp; omega)) _ | refine Below.setCell ?_ (by first | omega | (simp; done) | (simp; omega)) _ | refine below_then (by assumption) (by first | omega | (simp; done) | (simp; omega)) ?_)))) hg1)
  have A1 : Hid (RoAt w1 w.heap.size (.slice A xs.length cA) (.slice C ys.length cC)) := by
    refine RoAt.grew ?_ ?_ hg1
    · refine ⟨?_, ?_⟩ <;> simp [go_sem]
    · simp <;> omega
  have R1 : Hid (BoxR w1 (w.heap.size + 1) (.slice none 0 0) (.slice none 0 0)) := by
    refine BoxR.grew ?_ ?_ hg1
    · refine ⟨⟨?_, ?_⟩, ?_, ?_⟩ <;> simp [go_sem]
    · simp
  have z1 : w.heap.size + 1 < w1.heap.size := by have := Below.size hg1; simp at this; omega
  have z0 : w.heap.size < w1.heap.size := by omega
  clear hg1 V1
  obtain ⟨p0, p1⟩ := A1.out
  go_wp2_with fail
  try simp only [List.append_eq, List.cons_append, List.nil_append]
  refine wp_region_any (by kernel_rfl) ?_
  refine wpAny_tail'' [16, 19, 5] [(16, RowNew xs), (19, RowNew ys), (5, W2 <| BoxBy w1.heap.size)] [0, 1, 2, 3, 4, 5, 6, 7, 8, 9, 10, 11] [12] (by kernel_rfl) (by kernel_rfl) (by kernel_rfl) (by kernel_rfl) (by kernel_rfl) (by kernel_rfl) (by kernel_rfl) (by kernel_rfl) (by simp) (by kernel_rfl) (by kernel_rfl) (by kernel_rfl) ?_
  simp only [picks, List.filterMap_cons, List.filterMap_nil, List.getElem?_cons_zero, List.getElem?_cons_succ]
  try go_simp
  repeat (first | (refine wpG_skip rfl ?_; try go_simp) | (refine wpG_want rfl (fun K hK => ?_); first | (refine gG_fbin rfl rfl _ _ _ rfl rfl rfl ?_; intro z hz hzw; go_simp; refine hK _ ?_; clear hK K) | (intro wq hq hp; obtain ⟨hqc, hqf⟩ := bcell hq; go_simp; first | (refine hK _ ?_; clear hK K; try clear hp; try clear hqc hqf; try clear hq; try clear wq) | ((with_reducible refine g_at 61 ?_); refine g_f _ hq (by kernel_rfl) (fun wr hr => (c_sum A _ cA K0 xs _ (HX.out _ (grew_trans G1.out hr)) NM.out).mono fun e w'' ⟨r, he, h1, h2, hw⟩ => ⟨r, he, h1, h2, grew_of_drawn hw⟩) ?_; intro r hr hrf; refine hK _ ?_; clear hK K; try clear hp; try clear hqc hqf; try clear hq; try clear wq) | ((with_reducible refine g_at 62 (args := #[.slice A xs.length cA]) ?_); refine ⟨(c_Clone A _ cA K0 xs wq (HX.out wq (grew_trans G1.out hq)) (Nat.le_trans KK.out (Below.size (grew_trans G1.out hq))) (by have := NN.out; omega) (by have := NN.out; omega)).mono fun e w3 ⟨v, he, h, hg⟩ => ⟨v, he, rowNew_of h, hg⟩, ?_⟩; rintro v w3 hg3 ⟨A16, c16, rfl, hfa⟩; refine hK _ ?_; clear hK K; try clear hp; try clear hqc hqf; try clear hq; try clear wq) | ((with_reducible refine g_at 62 (args := #[.slice C ys.length cC]) ?_); refine ⟨(c_Clone C _ cC K0 ys wq (HY.out wq (grew_trans G1.out hq)) (Nat.le_trans KK.out (Below.size (grew_trans G1.out hq))) (by have := NN.out; omega) (by have := NN.out; omega)).mono fun e w3 ⟨v, he, h, hg⟩ => ⟨v, he, rowNew_of h, hg⟩, ?_⟩; rintro v w3 hg3 ⟨A19, c19, rfl, hfb⟩; refine hK _ ?_; clear hK K; try clear hp; try clear hqc hqf; try clear hq; try clear wq) | (refine ⟨boxBy_new (Below.size hq), ?_⟩; refine hK _ ?_; clear hK K; try clear hp; try clear hqc hqf; try clear hq))))
  refine wpG_nil ?_
  intro wq hq hal hap
  obtain ⟨hqc, hqf⟩ := bcell hq
  have hqs := Below.size hq
  try simp at hqs
  obtain ⟨b5, e5, hb5, hs5, hbox, hisb⟩ := BoxBy.get (hal 5 (by simp)) (by simp [undef]) rfl
  obtain ⟨hr1, hr2, hra⟩ := rows_new hap (d := 16) (d' := 19) (xs := xs) (ys := ys) (by simp) (by simp) (by decide) rfl rfl (by simp [undef]) (by simp [undef])
  change FRow wq _ _ (.slice A16 xs.length c16) xs at hr1
  change FRow wq _ _ (.slice A19 ys.length c19) ys at hr2
  change ∀ k, (Value.slice A16 xs.length c16).ownBlock = some k → (Value.slice A19 ys.length c19).ownBlock ≠ some k at hra
  simp at e5
  rw [e5]
  have M0 := Lib.hid (mix_made hr1 hr2 hra hbox hisb hb5 hs5 hq)
  have hR := Lib.hid (show cl .f32 r = S from hr.trans HS.out)
  have hne : ¬ b5 = w.heap.size + 1 := by omega
  have hne' : ¬ w.heap.size + 1 = b5 := by omega
  have R2 := Lib.hid (((R1.out.grew z1 hq).set (b' := b5) hne 0 (.slice A16 xs.length c16)).set (b' := b5) hne 1 (.slice A19 ys.length c19))
  have G2 := Lib.hid (grew_trans G1.out hq)
  have hfl : flt (cl .f32 0) (cl .f32 r) = FF := by rw [hR.out]; exact HF.out
  have zq : w.heap.size + 1 < wq.heap.size := by have := Below.size hq; omega
  clear hal hap hr1 hr2 hra hisb hr hrf hqc hqf p0 p1 hfa hfb
  obtain ⟨⟨b0, b1⟩, b2, b3⟩ := hbox
  cases FF
  · obtain ⟨⟨r0, r1⟩, r2, r3⟩ := R1.out.grew z1 hq
    go_wp2_with fail
    refine bodyPost_ret (v := .tuple #[ZRO, .bool false]) (by simp [results, Try.results26, go_sem, r0, r1, b0, b1, hne, hne', ZRO]) rfl ?_
    exact ⟨_, [], [], rfl, rose_nil _ _ _, HD.out, HE.out, (by repeat (first | (with_reducible exact G2.out) | (with_reducible exact grw_refl _) | (with_reducible refine grew_draw _ _ ?_) | (with_reducible refine grew_al ?_ _) | (with_reducible refine grew_set ?_ ?_; rotate_left; omega)))⟩
  · clear e5 hq hqs
    go_wp2_with fail
    clear b0 b1 b2 b3
    go_loopw [28] (fun i wr => ∃ (k : Nat) (zs : List Nat), k ≤ xs.length ∧ i = .int .i64 k ∧ Hid (zs.length = xs.length) ∧ Hid (MixAt w1 wr w1.heap.size b5 (.slice A16 xs.length c16) (.slice A19 ys.length c19) zs ys (quoM xs S k) (ys.map (cl .f32)))) (fun i _ => xs.length - (intOf i).toNat)
    case atStart => exact ⟨0, xs, Nat.zero_le _, rfl, rfl, by rw [quoM_zero]; exact M0⟩
    case round =>
      obtain ⟨k, zs, hk, rfl, hzl, hM⟩ := hrel
      have p0 := hM.out.c0
      have pb := hM.out.lt
      by_cases hlt : k < xs.length
      · obtain ⟨b1, cap, e1, hb1, hc, hf, hset⟩ := mix_set1 hM.out (by intro e; have := hzl.out; rw [e] at this; simp at this; have := NN.out; omega)
        have e2 := hzl.out
        rw [e2] at e1
        simp only [Value.slice.injEq, true_and] at e1
        obtain ⟨rfl, rfl⟩ := e1
        clear e2
        have hcell := hc k (zs.getD k 0) (by have := hzl.out; simp [show k < zs.length by omega])
        have hfz := hf k
        have hxk : Hid (cl .f32 (zs.getD k 0) = cl .f32 (xs.getD k 0)) := by
          have h1 := quoM_at (xs := xs) (a := S) hlt
          rw [← hM.out.d1, List.getElem?_map] at h1
          have h2 : zs[k]? = some (zs.getD k 0) := by have := hzl.out; simp [show k < zs.length by omega]
          rw [h2] at h1
          exact Option.some.inj h1
        have HSET := Lib.hid (fun n x (hx : cl .f32 x = fop .quo .f32 (cl .f32 (zs.getD k 0)) (cl .f32 r)) => (quoM_set (a := S) hlt (hx.trans (by rw [hxk.out, hR.out]))) ▸ hset n k x (by have := hzl.out; omega))
        clear hc hf hset
        have i3 : (0 : Int) ≤ (k : Int) := by omega
        have i4 : (k : Int) < (xs.length : Int) := by omega
        have i6 : IntKind.i64.wrap (k : Int) = (k : Int) := by rw [IntKind.wrap_i64]; have := NN.out; omega
        have HW := Lib.hid (show wrap64 ((k : Int) + 1) = (k : Int) + 1 by have := NN.out; unfold wrap64; omega)
        generalize zs.getD k 0 = x at *
        go_wp2_with (refine upon_fbin rfl _ _ _ _ ?_; intro z n hz hzw)
        go_roundw
        case rel => exact ⟨k + 1, zs.set k _, by omega, by have e := HW.out; simp [e], by show (zs.set k _).length = _; simp [hzl.out], HSET.out _ _ (by assumption)⟩
        case measure =>
          have e := HW.out
          exact meas_less hlt e
      · obtain rfl : k = xs.length := by omega
        have i4 : ¬ (xs.length : Int) < (xs.length : Int) := by omega
        have p1 := hM.out.c1
        go_wp2_with fail
        have hRo : RoseAt wr w1.heap.size wr.heap.size (.agg #[.slice A16 xs.length c16, .slice A19 ys.length c19]) zs ys := ⟨_, _, rfl, hM.out.r1, hM.out.r2, hM.out.ap⟩
        have hzs : zs.length ≤ 1048576 := by have := NN.out; have := hzl.out; omega
        have hus : ys.length ≤ 1048576 := by have := NN.out; omega
        have hG := Lib.hid (grew_trans G1.out hM.out.gr)
        have hdd := quoM_end xs S
        have hbv : vRose zs ys = BB := by rw [← HB.out, ← hdd, ← hM.out.d1]; rfl
        have d1 : Hid (zs.map (cl .f32) = quoL xs S xs.length) := hM.out.d1.trans hdd
        clear hdd
        refine (c_checkedRose _ _ _ _ _ _ hRo (Nat.le_refl _) hzs hus).mono ?_
        rintro e w4 ⟨rfl, hg4⟩
        rw [hbv]
        have hRo4 := Lib.hid (hRo.grew (Nat.le_refl _) hg4)
        have hG4 := Lib.hid (grew_trans hG.out hg4)
        have R4 := Lib.hid ((R1.out.grew z1 hM.out.gr).grew (Nat.lt_of_lt_of_le z1 (Below.size hM.out.gr)) hg4)
        have hsz4 : wr.heap.size ≤ w4.heap.size := Below.size hg4
        have hw1 : w1.heap.size ≤ wr.heap.size := Below.size hM.out.gr
        have z4 : w.heap.size + 1 < w4.heap.size := by omega
        clear hg4 hRo hM p0 p1 hbv
        obtain ⟨⟨b0, b1⟩, b2, b3⟩ := R4.out
        cases BB
        · simp only [Bool.false_eq_true, if_false, ZRO]
          go_wp2_with fail
          refine bodyPost_ret (v := .tuple #[ZRO, .bool false]) (by simp [results, Try.results26, go_sem, b0, b1, ZRO]) rfl ?_
          exact ⟨_, [], [], rfl, rose_nil _ _ _, HD.out, HE.out, (by repeat (first | (with_reducible exact hG4.out) | (with_reducible exact grw_refl _) | (with_reducible refine grew_draw _ _ ?_) | (with_reducible refine grew_al ?_ _) | (with_reducible refine grew_set ?_ ?_; rotate_left; omega)))⟩
        · simp only [if_true]
          go_wp2_with fail
          have hne2 : w.heap.size + 1 < w1.heap.size := z1
          have e0 := (cell_set_other _ _ 1 0 (.slice A19 ys.length c19) (by omega)).trans (cell_set_own _ _ 0 (.slice A16 xs.length c16) _ b0)
          have e1 := cell_set_own _ _ 1 (.slice A19 ys.length c19) _ ((cell_set_other _ _ 0 1 (.slice A16 xs.length c16) (by omega)).trans b1)
          have hW : Wrote (w.heap.size + 1) (w.heap.size + 1 + 1) w4 ((w4.setCell ⟨w.heap.size + 1, 0, none⟩ (.slice A16 xs.length c16)).setCell ⟨w.heap.size + 1, 1, none⟩ (.slice A19 ys.length c19)) := (Wrote.of_outside (outside_set _ _ _ _)).trans (Wrote.of_outside (outside_set _ _ _ _))
          obtain ⟨X, Y, he, h1, h2, h3⟩ := hRo4.out
          have hz3 : w.heap.size ≤ w1.heap.size := by omega
          have hG5 : Grew w ((w4.setCell ⟨w.heap.size + 1, 0, none⟩ (.slice A16 xs.length c16)).setCell ⟨w.heap.size + 1, 1, none⟩ (.slice A19 ys.length c19)) := grew_set (grew_set hG4.out (by omega)) (by omega)
          have hsz5 : wr.heap.size ≤ ((w4.setCell ⟨w.heap.size + 1, 0, none⟩ (.slice A16 xs.length c16)).setCell ⟨w.heap.size + 1, 1, none⟩ (.slice A19 ys.length c19)).heap.size := Nat.le_trans hsz4 hW.size
          have hRo5 : RoseAt ((w4.setCell ⟨w.heap.size + 1, 0, none⟩ (.slice A16 xs.length c16)).setCell ⟨w.heap.size + 1, 1, none⟩ (.slice A19 ys.length c19)) w.heap.size _ (.agg #[.slice A16 xs.length c16, .slice A19 ys.length c19]) zs ys :=
            ⟨X, Y, he, (h1.wrote hsz4 hW (.inr (by omega))).mono hz3 hsz5, (h2.wrote hsz4 hW (.inr (by omega))).mono hz3 hsz5, h3⟩
          generalize (w4.setCell ⟨w.heap.size + 1, 0, none⟩ (.slice A16 xs.length c16)).setCell ⟨w.heap.size + 1, 1, none⟩ (.slice A19 ys.length c19) = w5 at *
          refine bodyPost_ret (v := .tuple #[.agg #[.slice A16 xs.length c16, .slice A19 ys.length c19], .bool true]) (by simp [results, Try.results26, go_sem, e0, e1]) rfl ?_
          exact ⟨_, zs, ys, rfl, hRo5, d1.out.trans HD.out, HE.out, hG5⟩

end Go.Proofs.Ytebhefbpkcpnjaa
