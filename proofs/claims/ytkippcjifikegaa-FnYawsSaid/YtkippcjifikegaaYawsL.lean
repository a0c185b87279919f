/-
  WALK: the law of yaws.
-/
import Derived.Test.YtkippcjifikegaaRunYawF
import Derived.Deep.Cut
namespace Go.Proofs.Ytkippcjifikegaa
open Go.RowKit Go.Flt
set_option linter.unusedVariables false
set_option maxRecDepth 100000
set_option linter.unusedSimpArgs false

theorem milli : isNum (cl .f64 4562254508917369340) = true ∧ 0 < iv (-1074) (cl .f64 4562254508917369340) := by decide +kernel

theorem not_milli {x : Ieee.Datum} (h : Q64 x 0) : flt (cl .f64 4562254508917369340) x = false := by
  obtain ⟨n, p⟩ := milli
  rw [flt_num (-1074) n h.num (place64 _) h.pl, h.v]
  exact decide_eq_false (by omega)

theorem max_Q {z : Nat} {k : Int} (h : Q64 (cl .f64 z) k) : ∃ mz, (if flt (cl .f64 0) (cl .f64 z) then z else 0) = mz ∧ Q64 (cl .f64 mz) (max 0 k) := by
  rw [Q64.zero.lt h]
  by_cases hk : 0 < k
  · refine ⟨z, by rw [decide_eq_true hk, if_pos rfl], ?_⟩
    rw [show max 0 k = k by omega]
    exact h
  · refine ⟨0, by rw [decide_eq_false hk, if_neg Bool.false_ne_true], ?_⟩
    rw [show max 0 k = 0 by omega]
    exact Q64.zero

theorem map_at6 {ls : List Nat} {g : Nat → Ieee.Datum} (h : ls.map (cl .f32) = (List.range 6).map g) : ls.length = 6 ∧ ∀ k, k < 6 → cl .f32 (ls.getD k 0) = g k ∧ ls.getD k 0 ∈ ls := by
  have hl : ls.length = 6 := by have := congrArg List.length h; simpa using this
  refine ⟨hl, fun k hk => ?_⟩
  have e : (ls.map (cl .f32))[k]? = ((List.range 6).map g)[k]? := by rw [h]
  rw [List.getElem?_map, List.getElem?_map, List.getElem?_eq_getElem (show k < ls.length by omega), List.getElem?_eq_getElem (show k < (List.range 6).length by simp; omega)] at e
  have e := Option.some.inj e
  rw [List.getElem_range] at e
  have e2 : ls.getD k 0 = ls[k]'(by omega) := by simp [List.getD, List.getElem?_eq_getElem (show k < ls.length by omega)]
  rw [e2]
  exact ⟨e, List.getElem_mem _⟩

def topD (x : Ieee.Datum) : Ieee.Datum := fop .add .f64 (fop .mul .f64 (cl .f64 4617315517961601024) x) (cl .f64 4562254508917369340)

def okTop (x : Ieee.Datum) (k : Int) : Bool := isNum (topD x) && decide ((k * 5) * ((tw 1068 : Nat) : Int) ≤ iv (-1074) (topD x))

theorem top_all : ∀ n : Fin 9, okTop (wid (cl .f32 (wdQ (n.val : Int)))) (n.val : Int) = true := by decide +kernel

theorem top_ok {q : Nat} {r : Int} (h : Q (cl .f32 q) r) (r1 : 0 ≤ r) (r2 : r ≤ 8) : isNum (topD (wid (cl .f32 q))) = true ∧ (r * 5) * ((tw 1068 : Nat) : Int) ≤ iv (-1074) (topD (wid (cl .f32 q))) := by
  have key : okTop (wid (cl .f32 q)) r = true := by
    rcases h.word (by omega) (by omega) with e | ⟨rfl, e⟩
    · rw [e]
      have := top_all ⟨r.toNat, by omega⟩
      have e2 : ((r.toNat : Nat) : Int) = r := by omega
      simp only [e2] at this
      exact this
    · rw [e]
      decide +kernel
  unfold okTop at key
  rw [Bool.and_eq_true, decide_eq_true_eq] at key
  exact key

theorem top_pl (x : Ieee.Datum) : Go.Flt.place (-1074) (topD x) := by
  have hr : ∀ o, Go.Flt.place (-1074) (rnd .f64 o) := by
    intro o
    cases o with
    | none => trivial
    | some d => exact place64 _
  exact hr _

theorem top_le {t : Ieee.Datum} {q : Nat} {r S : Int} (ht : Q64 t S) (h : Q (cl .f32 q) r) (r1 : 0 ≤ r) (r2 : r ≤ 8) (hS : S ≤ r * 5) : leF t (topD (wid (cl .f32 q))) = true := by
  obtain ⟨n, v⟩ := top_ok h r1 r2
  rw [leF_num (-1074) ht.num n ht.pl (top_pl _), ht.v]
  have := (mul_le_iff t1068_pos).2 hS
  exact decide_eq_true (by omega)

theorem wrpS_Q {x y : Nat} {a b : Int} (hx : Q (cl .f32 x) b) (hy : Q (cl .f32 y) a) (a1 : -32 ≤ a) (a2 : a ≤ 31) (b1 : -32 ≤ b) (b2 : b ≤ 31) : Q (wrp (fop .sub .f32 (cl .f32 x) (cl .f32 y))) (wrI (b - a)) := by
  have h := hx.sub hy (by omega) (by omega)
  obtain ⟨z, hz⟩ := num_word h.num
  rw [hz] at h ⊢
  exact Q.wrp h (by omega) (by omega)

set_option maxHeartbeats 8000000 in
theorem walk_Yaws_ok (A0 : Option Addr) (l0 c0 : Nat) (xs0 : List Nat) (A1 : Option Addr) (l1 c1 : Nat) (xs1 : List Nat) (w : World) (h0 : Bys w w.heap.size A0 l0 xs0) (h1 : Bys w w.heap.size A1 l1 xs1) (g0 : l0 ≤ 1048576) (g1 : l1 ≤ 1048576) :
    Calls Try.prog 3 #[.slice A0 l0 c0, .slice A1 l1 c1] w fun e w' => e = .returned (.bool true) ∧ Below w.heap.size w w' := by
  obtain ⟨i, hi', hz0, hz1, hz2⟩ := info_parts info_float32
  have HI := Lib.hid hi'
  have HI0 := Lib.hid hz0
  have HI1 := Lib.hid hz1
  have HI2 := Lib.hid hz2
  clear hi' hz0 hz1 hz2
  have BL := Lib.hid (c_b10Long A0 A1 l0 l1 c0 c1 w)
  have hno : (decide (1048576 < l0) || decide (1048576 < l1)) = false := by simp; omega
  rw [hno] at BL
  have GB : ∀ {A : Option Addr} {n : Nat} {xs : List Nat}, Bys w w.heap.size A n xs → ∀ w', Grew w w' → Bys w' w.heap.size A n xs := fun h w' hg => ⟨Slc.grew h.1 (Nat.le_refl _) hg, h.2⟩
  have V0 := Lib.hid (fun w' (hg : Grew w w') (i k : Int) (a : 0 ≤ i) (b : i ≤ 1000) (c : 2 ≤ k) (d : k ≤ 1000) => c_at A0 l0 c0 _ i k xs0 w' (GB h0 w' hg) a b c d)
  have V1 := Lib.hid (fun w' (hg : Grew w w') (i k : Int) (a : 0 ≤ i) (b : i ≤ 1000) (c : 2 ≤ k) (d : k ≤ 1000) => c_at A1 l1 c1 _ i k xs1 w' (GB h1 w' hg) a b c d)
  clear hno GB h0 h1 g0 g1
  go_enter Try.func3, Try.ntmps3
  go_upto_region 3 with (go_at_call 6; refine BL.out.mono ?_; rintro e w' ⟨rfl, nq, rfl⟩)
  go_upto_region 4 with (first | (refine upon_fbin rfl _ _ _ _ ?_; intro z n hz hzw) | (go_at_call 7; refine (V0.out _ (by (show Below _ _ _; (repeat (first | exact Below.refl _ _ | refine ext_below ?_ (by first | omega | (simp only [size_ext, heap_push, Array.size_push, World.heap_drewN]; omega) | (simp; omega)) _ _ | refine below_draws ?_ _ | refine Below.alloc ?_ (by first | omega | (simp; done) | (simp; omega)) _ | refine Below.setCell ?_ (by first | omega | (simp; done) | (simp; omega)) _ | refine below_then (by assumption) (by first | omega | (simp; done) | (simp; omega)) ?_)))) 0 64 (by omega) (by omega) (by omega) (by omega)).mono ?_; rintro e w' ⟨m, rfl, hm, nq2, rfl⟩; have hwm : IntKind.i64.wrap ((m : Int) - 32) = (m : Int) - 32 := by rw [IntKind.wrap_i64]; omega))
  have HY := Lib.hid (show Q (cl .f32 z) ((m : Int) - 32) by rw [hz]; exact byte_Q (by omega) (by omega))
  obtain ⟨a, ha, a1, a2⟩ : ∃ a : Int, a = (m : Int) - 32 ∧ -32 ≤ a ∧ a ≤ 31 := ⟨_, rfl, by omega, by omega⟩
  rw [← ha] at HY
  have FY : Hid (fits z) := hzw
  obtain ⟨y, hy⟩ : ∃ q, q = z := ⟨_, rfl⟩
  subst hy
  clear hz hm hwm hzw
  go_upto_region 5 with (first | (refine upon_fbin rfl _ _ _ _ ?_; intro z n hz hzw) | (go_at_call 7; refine (V0.out _ (by (show Below _ _ _; (repeat (first | exact Below.refl _ _ | refine ext_below ?_ (by first | omega | (simp only [size_ext, heap_push, Array.size_push, World.heap_drewN]; omega) | (simp; omega)) _ _ | refine below_draws ?_ _ | refine Below.alloc ?_ (by first | omega | (simp; done) | (simp; omega)) _ | refine Below.setCell ?_ (by first | omega | (simp; done) | (simp; omega)) _ | refine below_then (by assumption) (by first | omega | (simp; done) | (simp; omega)) ?_)))) 1 64 (by omega) (by omega) (by omega) (by omega)).mono ?_; rintro e w' ⟨m2, rfl, hm, nq3, rfl⟩; have hwm : IntKind.i64.wrap ((m2 : Int) - 32) = (m2 : Int) - 32 := by rw [IntKind.wrap_i64]; omega))
  have HX := Lib.hid (show Q (cl .f32 z) ((m2 : Int) - 32) by rw [hz]; exact byte_Q (by omega) (by omega))
  obtain ⟨b, hb, b1, b2⟩ : ∃ a : Int, a = (m2 : Int) - 32 ∧ -32 ≤ a ∧ a ≤ 31 := ⟨_, rfl, by omega, by omega⟩
  rw [← hb] at HX
  obtain ⟨x, hx⟩ : ∃ q, q = z := ⟨_, rfl⟩
  subst hx
  clear hz hm hwm hzw
  go_upto_region 6 with (first | (refine upon_fbin rfl _ _ _ _ ?_; intro z n hz hzw) | (go_at_call 7; refine (V1.out _ (by (show Below _ _ _; (repeat (first | exact Below.refl _ _ | refine ext_below ?_ (by first | omega | (simp only [size_ext, heap_push, Array.size_push, World.heap_drewN]; omega) | (simp; omega)) _ _ | refine below_draws ?_ _ | refine Below.alloc ?_ (by first | omega | (simp; done) | (simp; omega)) _ | refine Below.setCell ?_ (by first | omega | (simp; done) | (simp; omega)) _ | refine below_then (by assumption) (by first | omega | (simp; done) | (simp; omega)) ?_)))) 0 9 (by omega) (by omega) (by omega) (by omega)).mono ?_; rintro e w' ⟨m3, rfl, hm, nq4, rfl⟩))
  have HQ := Lib.hid (show Q (cl .f32 z) (m3 : Int) by rw [hz]; exact byte_Q (by omega) (by omega))
  obtain ⟨r, hr, r1, r2⟩ : ∃ a : Int, a = (m3 : Int) ∧ 0 ≤ a ∧ a ≤ 8 := ⟨_, rfl, by omega, by omega⟩
  rw [← hr] at HQ
  obtain ⟨q, hq⟩ : ∃ q, q = z := ⟨_, rfl⟩
  subst hq
  clear hz hm hzw
  go_upto_region 7 with (first | (refine upon_fbin rfl _ _ _ _ ?_; intro z n hz hzw) | (go_at_call 7; refine (V1.out _ (by (show Below _ _ _; (repeat (first | exact Below.refl _ _ | refine ext_below ?_ (by first | omega | (simp only [size_ext, heap_push, Array.size_push, World.heap_drewN]; omega) | (simp; omega)) _ _ | refine below_draws ?_ _ | refine Below.alloc ?_ (by first | omega | (simp; done) | (simp; omega)) _ | refine Below.setCell ?_ (by first | omega | (simp; done) | (simp; omega)) _ | refine below_then (by assumption) (by first | omega | (simp; done) | (simp; omega)) ?_)))) 1 5 (by omega) (by omega) (by omega) (by omega)).mono ?_; rintro e w' ⟨m4, rfl, hm, nq5, rfl⟩))
  have HM := Lib.hid (show Q (cl .f32 z) (m4 : Int) by rw [hz]; exact byte_Q (by omega) (by omega))
  obtain ⟨nI, hn, n1, n2⟩ : ∃ a : Int, a = (m4 : Int) ∧ 0 ≤ a ∧ a ≤ 4 := ⟨_, rfl, by omega, by omega⟩
  rw [← hn] at HM
  obtain ⟨p, hp⟩ : ∃ q, q = z := ⟨_, rfl⟩
  subst hp
  clear hz hm hzw ha hb hr hn
  go_upto_region 8 with (go_at_call 8; refine (c_stepQ _ FY.out HY.out HX.out HQ.out HM.out a1 a2 b1 b2 r1 r2 n1).mono ?_; rintro e w1 ⟨nx, rfl, hnx, hnf, hg1⟩; have G1 := Lib.hid (grew_trans (show Grew w _ by (show Below _ _ _; (repeat (first | exact Below.refl _ _ | refine ext_below ?_ (by first | omega | (simp only [size_ext, heap_push, Array.size_push, World.heap_drewN]; omega) | (simp; omega)) _ _ | refine below_draws ?_ _ | refine Below.alloc ?_ (by first | omega | (simp; done) | (simp; omega)) _ | refine Below.setCell ?_ (by first | omega | (simp; done) | (simp; omega)) _ | refine below_then (by assumption) (by first | omega | (simp; done) | (simp; omega)) ?_)))) hg1); clear hg1)
  have HN := Lib.hid (show Q (cl .f32 nx) (nxI a b r nI) by rw [hnx]; exact (Q.nxt HY.out HX.out HQ.out HM.out a1 a2 b1 b2 r1 r2).1)
  have HNF : Hid (fits nx) := hnf
  have L1 := Lib.hid (fun h => nx_near (b := b) (r := r) (n := nI) a1 a2 h)
  have L2 := Lib.hid (fun h => nx_after (n := nI) a1 a2 b1 b2 r1 r2 h)
  obtain ⟨c1, c2⟩ := nxI_in a b r nI
  generalize nxI a b r nI = c at *
  clear hnx hnf
  go_upto_region 9 with (first | (refine upon_fbin rfl _ _ _ _ ?_; intro z n hz hzw) | (go_at_call 9; refine (c_specWrapAngle _ _ (by rw [hz]; exact fin_Q (HX.out.sub HY.out (by omega) (by omega)))).mono ?_; rintro e w' ⟨d1, rfl, hd1, hd1f, nq6, rfl⟩))
  have HD := Lib.hid (show Q (cl .f32 d1) (wrI (b - a)) by rw [hd1, hz]; exact wrpS_Q HX.out HY.out a1 a2 b1 b2)
  clear hz hd1 hd1f hzw
  go_upto_region 10 with (first | (refine upon_fbin rfl _ _ _ _ ?_; intro z n hz hzw) | (go_at_call 9; refine (c_specWrapAngle _ _ (by rw [hz]; exact fin_Q (HX.out.sub HN.out (by omega) (by omega)))).mono ?_; rintro e w' ⟨d2, rfl, hd2, hd2f, nq7, rfl⟩))
  have HE := Lib.hid (show Q (cl .f32 d2) (wrI (b - c)) by rw [hd2, hz]; exact wrpS_Q HX.out HN.out c1 c2 b1 b2)
  clear hz hd2 hd2f hzw
  have f1 : flt (cl .f32 nx) (cl .f32 3204448256) = false := by rw [HN.out.lt (show Q (cl .f32 3204448256) (-32) from Q.of (by decide +kernel))]; exact decide_eq_false (by omega)
  have f2 : leF (cl .f32 1056964608) (cl .f32 nx) = false := by rw [(show Q (cl .f32 1056964608) 32 from Q.of (by decide +kernel)).le HN.out]; exact decide_eq_false (by omega)
  go_upto_region 12 with fail
  clear f1 f2
  obtain ⟨dA, hdA⟩ : ∃ d, d = wrI (b - a) := ⟨_, rfl⟩
  obtain ⟨dB, hdB⟩ : ∃ d, d = wrI (b - c) := ⟨_, rfl⟩
  have iA := wrI_in (b - a)
  have iB := wrI_in (b - c)
  rw [← hdA] at HD L1 L2 iA
  rw [← hdB] at HE L2 iB
  clear hdA hdB
  go_upto_region 13 with (first | (refine upon_widen _ _ _ some_f32 Try.underlying29 ?_; intro z n hz hzw) | (go_at_call 10; refine (c_b10Gap _ _ _).mono ?_; rintro e w' ⟨ga, rfl, hga, hgaf, nq8, rfl⟩))
  have HGA := Lib.hid (show Q64 (cl .f64 ga) (dA.natAbs : Int) by rw [hga, hz]; have h := Q64.gap (HD.out.wid) Q64.zero (by omega) (by omega) (by omega) (by omega); rw [Int.sub_zero] at h; exact h)
  clear hz hga hgaf hzw
  go_upto_region 14 with (first | (refine upon_widen _ _ _ some_f32 Try.underlying29 ?_; intro z n hz hzw) | (go_at_call 10; refine (c_b10Gap _ _ _).mono ?_; rintro e w' ⟨gb, rfl, hgb, hgbf, nq9, rfl⟩))
  have HGB := Lib.hid (show Q64 (cl .f64 gb) (dB.natAbs : Int) by rw [hgb, hz]; have h := Q64.gap (HE.out.wid) Q64.zero (by omega) (by omega) (by omega) (by omega); rw [Int.sub_zero] at h; exact h)
  clear hz hgb hgbf hzw
  clear BL V0
  by_cases hc1 : (dA.natAbs : Int) ≤ nI
  case' pos =>
    have e1 : leF (cl .f64 ga) (wid (cl .f32 p)) = true := by rw [HGA.out.le HM.out.wid]; exact decide_eq_true hc1
    have e2 : feq (cl .f32 nx) (cl .f32 y) = true := by rw [HN.out.eq HY.out]; exact decide_eq_true (L1.out hc1)
    have e3 : flt (wid (cl .f32 p)) (cl .f64 ga) = false := by rw [HM.out.wid.lt HGA.out]; exact decide_eq_false (by omega)
    clear L1 L2
    go_wp2_with fail
    (refine upon_widen _ _ _ some_f32 Try.underlying29 ?_; intro z n hz hzw)
    rw [← hz] at e1
    clear hz
    go_wp2_with fail
    (refine upon_widen _ _ _ some_f32 Try.underlying29 ?_; intro z n hz hzw)
    rw [← hz] at e3
    clear hz
    go_upto_region 16 with fail
    clear e1 e2 e3 hc1
  case' neg =>
    have e1 : leF (cl .f64 ga) (wid (cl .f32 p)) = false := by rw [HGA.out.le HM.out.wid]; exact decide_eq_false hc1
    have e3 : flt (wid (cl .f32 p)) (cl .f64 ga) = true := by rw [HM.out.wid.lt HGA.out]; exact decide_eq_true (by omega)
    have HB2 := Lib.hid (L2.out (by omega))
    clear L1 L2
    go_wp2_with fail
    (refine upon_widen _ _ _ some_f32 Try.underlying29 ?_; intro z n hz hzw)
    rw [← hz] at e1
    clear hz
    go_wp2_with fail
    (refine upon_widen _ _ _ some_f32 Try.underlying29 ?_; intro z n hz hzw)
    rw [← hz] at e3
    clear hz
    go_wp2_with fail
    (refine upon_widen _ _ _ some_f32 Try.underlying29 ?_; intro z n hz hzw)
    have HZQ := Lib.hid (show Q64 (cl .f64 z) r by rw [hz]; exact HQ.out.wid)
    clear hz
    go_wp2_with fail
    (refine upon_fbin rfl _ _ _ _ ?_; intro z n hz hzw)
    have HSB := Lib.hid (show Q64 (cl .f64 z) ((dA.natAbs : Int) - r) by rw [hz]; exact HGA.out.sub HZQ.out (by omega) (by omega))
    clear hz
    go_wp2_with fail
    rw [run_max0 _ _ _ _ HSB.out.num]
    obtain ⟨mz, hmz, hmq⟩ := max_Q HSB.out
    rw [hmz]
    rw [← HB2.out] at hmq
    have HMZ := Lib.hid hmq
    clear hmz hmq
    go_upto_region 16 with (go_at_call 10; refine (c_b10Gap _ _ _).mono ?_; rintro e w' ⟨gc, rfl, hgc, hgcf, nq10, rfl⟩; have e5 : flt (cl .f64 4562254508917369340) (cl .f64 gc) = false := (by refine not_milli ?_; rw [hgc]; have h := Q64.gap HGB.out HMZ.out (by omega) (by omega) (by omega) (by omega); rw [Int.sub_self] at h; exact h); clear hgc hgcf)
    clear e1 e3 e5 hc1
  all_goals
    clear HGA HGB HD HE HN HNF iA iB
    go_wp2_with fail
    go_loopw [17, 18] (fun u si wr => ∃ (k : Nat) (zs : List Nat), k ≤ 6 ∧ si = .int .i64 k ∧ Hid (zs.length = k) ∧ Hid (FRow wr w1.heap.size wr.heap.size u zs) ∧ Hid (∀ j, j < k → ∃ b, Q (cl .f32 (zs.getD j 0)) b ∧ -32 ≤ b ∧ b ≤ 31) ∧ Hid (Grew w1 wr)) (fun _ si _ => 6 - (intOf si).toNat)
    case atStart => exact ⟨0, [], by omega, rfl, rfl, RowAt.mono (row_made _ (by (show Below _ _ _; (repeat (first | exact Below.refl _ _ | refine ext_below ?_ (by first | omega | (simp only [size_ext, heap_push, Array.size_push, World.heap_drewN]; omega) | (simp; omega)) _ _ | refine below_draws ?_ _ | refine Below.alloc ?_ (by first | omega | (simp; done) | (simp; omega)) _ | refine Below.setCell ?_ (by first | omega | (simp; done) | (simp; omega)) _ | refine below_then (by assumption) (by first | omega | (simp; done) | (simp; omega)) ?_))))).1 (Nat.le_refl _) (by simp), fun j h => absurd h (by omega), by show Grew _ _; (show Below _ _ _; (repeat (first | exact Below.refl _ _ | refine ext_below ?_ (by first | omega | (simp only [size_ext, heap_push, Array.size_push, World.heap_drewN]; omega) | (simp; omega)) _ _ | refine below_draws ?_ _ | refine Below.alloc ?_ (by first | omega | (simp; done) | (simp; omega)) _ | refine Below.setCell ?_ (by first | omega | (simp; done) | (simp; omega)) _ | refine below_then (by assumption) (by first | omega | (simp; done) | (simp; omega)) ?_)))⟩
    case round =>
      obtain ⟨k, zs, hk, rfl, hzl, hrow, hall, hg⟩ := hrel
      by_cases hlt : k < 6
      · have i4 : (k : Int) < 6 := by omega
        have i5 : IntKind.i64.wrap ((k : Int) + 2) = (k : Int) + 2 := by rw [IntKind.wrap_i64]; omega
        have HWR := Lib.hid (show wrap64 ((k : Int) + 1) = (k : Int) + 1 by unfold wrap64; omega)
        have hv := hrow.out.sl
        obtain ⟨aw, nw, mw, rfl⟩ := hv
        go_wp2_with (first | (refine upon_fbin rfl _ _ _ _ ?_; intro z n hz hzw) | (go_at_call 7; refine (V1.out _ (grew_trans G1.out hg.out) ((k : Int) + 2) 64 (by omega) (by omega) (by omega) (by omega)).mono ?_; rintro e wa ⟨m5, rfl, hm, hda⟩; have hgw : Grew wr wa := grew_of_drawn hda; have hwm : IntKind.i64.wrap ((m5 : Int) - 32) = (m5 : Int) - 32 := (by rw [IntKind.wrap_i64]; omega)) | (at_builtin; refine wpList_append_own _ rfl _ _ 31 rfl w1.heap.size 24 i (.float .f32 0) 1 4 Try.underlying31 HI.out HI0.out HI1.out HI2.out rfl (by decide) _ _ _ rfl ((hrow.out.grew (Nat.le_refl _) (grew_draw _ _ hgw)).1.alloc _) ⟨_, 0, none⟩ 1 _ [.float .f32 z] rfl rfl (cell_one_new _ _ _) (by simp [Value.oneCell']) (by have := hzl.out; unfold maxLen; omega) (by have := hzl.out; omega) (by have h1 := Below.size hg.out; have h2 := Below.size hgw; simp; omega) ?_; rintro v' w2 hown hgr _; have hrp := Lib.hid (row_push hg.out hrow.out (grew_draw _ _ hgw) hown hgr); clear hown hgr))
        have HZ := Lib.hid (show Q (cl .f32 z) ((m5 : Int) - 32) by rw [hz]; exact byte_Q (by omega) (by omega))
        clear hz
        go_roundw
        case rel => exact ⟨k + 1, zs ++ [z], by omega, by have e := HWR.out; simp [e], by show (zs ++ [z]).length = k + 1; simp [hzl.out], hrp.out.1, (fun j hj => by
              have hl := hzl.out
              rcases Nat.lt_or_ge j k with h | h
              · have := hall.out j h
                have e : (zs ++ [z]).getD j 0 = zs.getD j 0 := by simp [List.getD, List.getElem?_append_left (show j < zs.length by omega)]
                rw [e]; exact this
              · obtain rfl : j = k := by omega
                have e : (zs ++ [z]).getD j 0 = z := by simp [List.getD, ← hl]
                rw [e]
                exact ⟨(m5 : Int) - 32, HZ.out, by omega, by omega⟩), hrp.out.2⟩
        case measure => have e := HWR.out; simp [intOf]; omega
      · obtain rfl : k = 6 := by omega
        obtain ⟨aw, mw, rfl, hsl⟩ := hrow.out.slc
        have hl : zs.length = 6 := hzl.out
        obtain ⟨hok, hrun, f, f0, fk, fd⟩ := runQ HY.out HQ.out HM.out a1 a2 r1 r2 n1 hl hall.out
        rw [hl] at hsl ⊢
        have VR := Lib.hid (c_implRunYawF y aw 6 mw wr.heap.size zs q p wr hsl (Nat.le_refl _) FY.out)
        rw [hok, hrun] at VR
        have HSL := Lib.hid hsl
        have HFK := Lib.hid fk
        have HFD := Lib.hid fd
        have HK0 := Lib.hid (show yk (cl .f32 q) (cl .f32 p) zs (cl .f32 y) 0 = cl .f32 y from rfl)
        have HKS := Lib.hid (show ∀ k, yk (cl .f32 q) (cl .f32 p) zs (cl .f32 y) (k + 1) = nxt (yk (cl .f32 q) (cl .f32 p) zs (cl .f32 y) k) (cl .f32 (zs.getD k 0)) (cl .f32 q) (cl .f32 p) from fun _ => rfl)
        have G2 := Lib.hid (grew_trans G1.out hg.out)
        clear hsl fk fd f0 hok hrun hrow hg hzl V1 hl HX
        generalize yk (cl .f32 q) (cl .f32 p) zs (cl .f32 y) = YK at *
        go_upto_region 22 with (go_at_call 11; refine VR.out.mono ?_; rintro e w3 ⟨v3, ls, rfl, hr3, hf3, hm3, hg3⟩; have HR3 := Lib.hid hr3; have HF3 := Lib.hid hf3; have HM3 := Lib.hid hm3; have HG3 := Lib.hid hg3; obtain ⟨u3, x3, y3, rfl⟩ := hr3.sl; clear hr3 hf3 hm3 hg3)
        obtain ⟨hl3, hls⟩ := map_at6 HM3.out
        obtain ⟨a3, c3, e3, hs3⟩ := HR3.out.slc
        simp only [Value.slice.injEq] at e3
        obtain ⟨rfl, rfl, rfl⟩ := e3
        rw [hl3] at hs3 ⊢
        have HS3 := Lib.hid hs3
        have HLS := Lib.hid hls
        have HL3 := Lib.hid hl3
        have HKK := Lib.hid hk
        clear hs3 hls VR HM3 HR3 hk hlt hl3
        go_wp2_with fail
        go_loopw [21, 152] (fun sz si wr2 => ∃ (k z : Nat), k ≤ 6 ∧ sz = .float .f32 z ∧ si = .int .i64 (k : Int) ∧ Hid (cl .f32 z = YK k) ∧ Hid (fits z) ∧ Hid (Grew w3 wr2)) (fun _ si _ => 6 - (intOf si).toNat)
        case atStart => exact ⟨0, y, by omega, rfl, rfl, HK0.out.symm, FY.out, by show Grew _ _; (show Below _ _ _; (repeat (first | exact Below.refl _ _ | refine ext_below ?_ (by first | omega | (simp only [size_ext, heap_push, Array.size_push, World.heap_drewN]; omega) | (simp; omega)) _ _ | refine below_draws ?_ _ | refine Below.alloc ?_ (by first | omega | (simp; done) | (simp; omega)) _ | refine Below.setCell ?_ (by first | omega | (simp; done) | (simp; omega)) _ | refine below_then (by assumption) (by first | omega | (simp; done) | (simp; omega)) ?_)))⟩
        case round =>
          obtain ⟨k, z, hk, rfl, rfl, hzk, hzf, hgr⟩ := hrel
          by_cases hlt : k < 6
          · obtain ⟨bx, ox, rfl, hbx, hcx⟩ := HSL.out.2 (by omega)
            obtain ⟨by3, oy, rfl, hby, hcy⟩ := HS3.out.2 (by omega)
            have q1 := (bcell (grew_trans HG3.out hgr.out)).1 bx (ox + k) hbx
            have q2 := (bcell hgr.out).1 by3 (oy + k) hby
            have hsx := HSL.out.1
            have HBY := Lib.hid (Nat.lt_of_lt_of_le hby (Below.size hgr.out))
            have cx1 := q1.trans (hcx k (zs.getD k 0) (by simp [show k < zs.length by omega]))
            have cx2 := q2.trans (hcy k (ls.getD k 0) (by have := HL3.out; simp [show k < ls.length by omega]))
            obtain ⟨b', hb1, hb2, hb3⟩ := hall.out k hlt
            obtain ⟨m1, m2'⟩ := HLS.out k hlt
            have fl := HF3.out _ m2'
            obtain ⟨_, k1, k2, k3⟩ := HFK.out k hk
            have VS := Lib.hid (fun w' => c_stepQ (y := z) (x := zs.getD k 0) w' hzf.out (by rw [hzk.out]; exact k1) hb1 HQ.out HM.out k2 k3 hb2 hb3 r1 r2 n1)
            have HKK2 := Lib.hid ((HKS.out k).symm.trans m1.symm)
            rw [← hzk.out] at HKK2
            have HK2 := Lib.hid m1
            clear q1 q2 hcx hcy hb1 hb2 hb3 m1 m2' k1 k2 k3 hsx hbx hby
            generalize zs.getD k 0 = u at *
            generalize ls.getD k 0 = v at *
            have HFL := Lib.hid fl
            have i3 : (0 : Int) ≤ (k : Int) := by omega
            have i4 : (k : Int) < 6 := by omega
            have i6 : IntKind.i64.wrap (k : Int) = (k : Int) := by rw [IntKind.wrap_i64]; omega
            have HWR := Lib.hid (show wrap64 ((k : Int) + 1) = (k : Int) + 1 by unfold wrap64; omega)
            clear fl
            go_wp2_with (first | (go_at_call 8; refine (VS.out _).mono ?_; rintro e w4 ⟨tl, rfl, htl, htf, hg4⟩; have cx3 := ((bcell hg4).1 _ _ HBY.out).trans cx2; have HT1 := Lib.hid (htl.trans HKK2.out); have HG4 := Lib.hid (grew_trans hgr.out hg4); clear hg4 htl cx1 cx2) | (go_at_call 12; refine (c_specSame _ _ _ htf HFL.out HT1.out).mono ?_; rintro e w' ⟨rfl, nq11, rfl⟩))
            go_roundw
            case rel => exact ⟨k + 1, tl, by omega, rfl, by have e := HWR.out; simp [e], HT1.out.trans HK2.out, htf, grew_draw _ _ HG4.out⟩
            case measure => have e := HWR.out; simp [intOf]; omega
          · obtain rfl : k = 6 := by omega
            obtain ⟨hokT, S, hS, s1, s2⟩ := turn_Q (xs := ls) (f := fun k => f (k + 1)) HL3.out r1 r2 (fun k hk => by
              obtain ⟨_, k1, k2, k3⟩ := HFK.out (k + 1) (by omega)
              rw [(HLS.out k hk).1]
              exact ⟨k1, k2, k3⟩) (fun k hk => HFD.out (k + 1) (by omega))
            have hs4 := Slc.grew (g := Value.float .f32) HS3.out (Nat.le_refl _) hgr.out
            have VT := Lib.hid (fun cap => c_implTurnedBy _ 6 cap w3.heap.size ls _ hs4 (by omega))
            simp only [hokT] at VT
            have HSS := Lib.hid hS
            have G5 := Lib.hid (grew_trans G2.out (grew_trans HG3.out hgr.out))
            clear hokT hS hs4
            go_upto_region 34 with (go_at_call 13; refine (VT.out _).mono ?_; rintro e w' ⟨tt, rfl, htt, httf, nq12, rfl⟩)
            have HTT := Lib.hid (show Q (cl .f32 tt) S by rw [htt]; exact HSS.out)
            have e1 : leF (cl .f32 0) (cl .f32 tt) = true := by rw [Q.zero.le HTT.out]; exact decide_eq_true s1
            clear htt httf
            go_wp2_with fail
            (refine upon_widen _ _ _ some_f32 Try.underlying29 ?_; intro z n hz hzw)
            have HZ1 := Lib.hid (show Q64 (cl .f64 z) S by rw [hz]; exact HTT.out.wid)
            clear hz
            obtain ⟨z1, hz1⟩ : ∃ q, q = z := ⟨_, rfl⟩
            subst hz1
            go_wp2_with fail
            (refine upon_widen _ _ _ some_f32 Try.underlying29 ?_; intro z n hz hzw)
            have HZ2 := Lib.hid hz
            clear hz
            go_wp2_with fail
            (refine upon_fbin rfl _ _ _ _ ?_; intro z n hz hzw)
            have HZ3 := Lib.hid (hz.trans (by rw [HZ2.out]))
            clear hz
            go_wp2_with fail
            (refine upon_fbin rfl _ _ _ _ ?_; intro z n hz hzw)
            have e2 : leF (cl .f64 z1) (cl .f64 z) = true := by
              have h4 := hz
              rw [HZ3.out] at h4
              have h5 : cl .f64 z = topD (wid (cl .f32 q)) := h4
              rw [h5]
              exact top_le HZ1.out HQ.out r1 r2 s2
            clear hz
            go_wp2_with fail
            go_ret
            exact ⟨rfl, grew_draw _ _ G5.out⟩

theorem walk_Yaws (A0 : Option Addr) (l0 c0 : Nat) (xs0 : List Nat) (A1 : Option Addr) (l1 c1 : Nat) (xs1 : List Nat) (w : World) (h0 : Slc (fun n : Nat => Value.int .u8 (n : Int)) w w.heap.size A0 l0 xs0) (n0 : l0 ≤ maxLen) (b0 : ∀ x ∈ xs0, x < 256) (h1 : Slc (fun n : Nat => Value.int .u8 (n : Int)) w w.heap.size A1 l1 xs1) (n1 : l1 ≤ maxLen) (b1 : ∀ x ∈ xs1, x < 256) :
    Calls Try.prog 3 #[.slice A0 l0 c0, .slice A1 l1 c1] w fun e w' => e = .returned (.bool true) ∧ Below w.heap.size w w' := by
  cases hl : (decide (1048576 < l0) || decide (1048576 < l1))
  · simp only [Bool.or_eq_false_iff, decide_eq_false_iff_not] at hl
    exact walk_Yaws_ok A0 l0 c0 xs0 A1 l1 c1 xs1 w ⟨h0, b0⟩ ⟨h1, b1⟩ (by omega) (by omega)
  · have BL := Lib.hid (c_b10Long A0 A1 l0 l1 c0 c1 w)
    rw [hl] at BL
    clear h0 h1 hl
    go_enter Try.func3, Try.ntmps3
    go_wp2_with (go_at_call 6; refine BL.out.mono ?_; rintro e w' ⟨rfl, nq, rfl⟩)
    go_ret
    exact ⟨rfl, by show Grew _ _; (show Below _ _ _; (repeat (first | exact Below.refl _ _ | refine ext_below ?_ (by first | omega | (simp only [size_ext, heap_push, Array.size_push, World.heap_drewN]; omega) | (simp; omega)) _ _ | refine below_draws ?_ _ | refine Below.alloc ?_ (by first | omega | (simp; done) | (simp; omega)) _ | refine Below.setCell ?_ (by first | omega | (simp; done) | (simp; omega)) _ | refine below_then (by assumption) (by first | omega | (simp; done) | (simp; omega)) ?_)))⟩

end Go.Proofs.Ytkippcjifikegaa
