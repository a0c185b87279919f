/-
  CONTRACT: the even rose, in the program.
-/
import Derived.Test.YtebhefbpkcpnjaaBox
import Derived.Test.YtebhefbpkcpnjaaRep
namespace Go.Proofs.Ytebhefbpkcpnjaa
open Go.RowKit Go.Flt
set_option linter.unusedVariables false
set_option maxRecDepth 100000
set_option linter.unusedSimpArgs false

def okSec (n : Int) : Bool := within n 1 16

/-- One share of an even rose. -/
def evenD (n : Int) : Ieee.Datum := fop .quo .f32 (cl .f32 1065353216) (cl .f32 (floatOfInt .f32 n))

def isEven (n : Int) (s : Nat) : Bool := okSec n && vRoseD (List.replicate n.toNat (evenD n)) (List.replicate n.toNat (cl .f32 s))

theorem c_isSectors (n : Int) (w : World) : Calls Try.prog 58 #[.int .i64 n] w fun e w' => e = .returned (.bool (okSec n)) ∧ ∃ n, w' = w.drewN n := by
  go_enter Try.func58, Try.ntmps58
  go_wp2_with (go_at_call 73; refine (c_within _ _ _ _).mono ?_; rintro e w' ⟨rfl, nq, rfl⟩)
  go_ret
  exact ⟨rfl, _, rfl⟩

set_option maxHeartbeats 4000000 in
theorem c_implEven (n : Int) (s : Nat) (w : World) (fs : fits s) :
    Calls Try.prog 24 #[.int .i64 n, .float .f32 s] w (RetR (if isEven n s then List.replicate n.toNat (evenD n) else []) (if isEven n s then List.replicate n.toNat (cl .f32 s) else []) (isEven n s) w) := by
  cases k1 : okSec n
  · have e : isEven n s = false := by simp [isEven, k1]
    rw [e]
    go_enter Try.func24, Try.ntmps24
    go_wp2_with (go_at_call 58; refine (c_isSectors _ _).mono ?_; rintro e w' ⟨rfl, nq, rfl⟩)
    refine bodyPost_ret (v := .tuple #[ZRO, .bool false]) (by simp [results, Try.results24, go_sem, ZRO]) rfl ?_
    exact ⟨_, [], [], rfl, rose_nil _ _ _, rfl, rfl, by (show Below _ _ _; (repeat (first | exact Below.refl _ _ | refine ext_below ?_ (by first | omega | (simp only [size_ext, heap_push, Array.size_push, World.heap_drewN]; omega) | (simp; omega)) _ _ | refine below_draws ?_ _ | refine Below.alloc ?_ (by first | omega | (simp; done) | (simp; omega)) _ | refine Below.setCell ?_ (by first | omega | (simp; done) | (simp; omega)) _ | refine below_then (by assumption) (by first | omega | (simp; done) | (simp; omega)) ?_)))⟩
  · have hk : isEven n s = vRoseD (List.replicate n.toNat (evenD n)) (List.replicate n.toNat (cl .f32 s)) := by unfold isEven; rw [k1]; rfl
    rw [hk]
    obtain ⟨c, rfl⟩ : ∃ c : Nat, n = c := ⟨n.toNat, by simp [okSec, within] at k1; omega⟩
    have hc : 1 ≤ c ∧ c ≤ 16 := by simp [okSec, within] at k1; omega
    have HC := Lib.hid hc
    simp only [Int.toNat_natCast]
    generalize hV : evenD (c : Int) = V
    have HV := Lib.hid hV
    generalize hB : vRoseD (List.replicate c V) (List.replicate c (cl .f32 s)) = BB
    generalize hD : (if BB then List.replicate c V else []) = DD
    generalize hE : (if BB then List.replicate c (cl .f32 s) else []) = EE
    have HB := Lib.hid hB
    have HD := Lib.hid hD
    have HE := Lib.hid hE
    have i2 : IntKind.i64.wrap (c : Int) = (c : Int) := by rw [IntKind.wrap_i64]; omega
    clear hV hB hD hE hk hc
    have R0 : Hid (BoxR (w.alloc (.cells #[.slice none 0 0, .slice none 0 0] 34)) w.heap.size (.slice none 0 0) (.slice none 0 0)) := by refine ⟨⟨?_, ?_⟩, ?_, ?_⟩ <;> simp [go_sem]
    go_enter Try.func24, Try.ntmps24
    go_wp2_with (first | (refine upon_fbin rfl _ _ _ _ ?_; intro z n hz hzw) | (go_at_call 58; refine (c_isSectors _ _).mono ?_; rintro e w' ⟨rfl, nq, rfl⟩))
    have hz : cl .f32 z = V := by rw [← HV.out]; assumption
    have HZ := Lib.hid hz
    have G0 := Lib.hid (fun k => (show Grew w (((w.alloc (.cells #[.slice none 0 0, .slice none 0 0] 34)).drewN k).alloc (.cells #[.float .f32 z] 23)) by show Below _ _ _; (repeat (first | exact Below.refl _ _ | refine ext_below ?_ (by first | omega | (simp only [size_ext, heap_push, Array.size_push, World.heap_drewN]; omega) | (simp; omega)) _ _ | refine below_draws ?_ _ | refine Below.alloc ?_ (by first | omega | (simp; done) | (simp; omega)) _ | refine Below.setCell ?_ (by first | omega | (simp; done) | (simp; omega)) _ | refine below_then (by assumption) (by first | omega | (simp; done) | (simp; omega)) ?_))))
    refine (c_Repeat (some ⟨w.heap.size + 1, 0, none⟩) 1 (w.heap.size + 1 + 1) z c _ (fl_new _ [z] (w.heap.size + 1) _ #[.float .f32 z] (by simp) (by simp)) (by simp) HC.out.1 HC.out.2).mono ?_
    rintro e w1 ⟨v1, rfl, hr1, hg1⟩
    have G1 := Lib.hid (grew_trans (G0.out _) hg1)
    have R1 : Hid (BoxR w1 w.heap.size (.slice none 0 0) (.slice none 0 0)) := by
      refine BoxR.grew ?_ ?_ hg1
      · refine ⟨⟨?_, ?_⟩, ?_, ?_⟩ <;> simp [go_sem]
      · simp; omega
    have z1 : w.heap.size < w1.heap.size := by have := Below.size hg1; simp at this; omega
    have N1 := Lib.hid (Below.size hg1)
    have Q1 := Lib.hid hr1
    obtain ⟨a1, n1, m1, rfl⟩ := hr1.sl
    clear hr1 hg1 G0 R0
    go_wp2_with fail
    have hal : Grew w1 (w1.alloc (.cells #[.float .f32 s] 23)) := grew_al (grew_refl _) _
    refine (c_Repeat (some ⟨w1.heap.size, 0, none⟩) 1 (w1.heap.size + 1) s c _ (fl_new _ [s] w1.heap.size _ #[.float .f32 s] rfl (by simp)) (by simp) HC.out.1 HC.out.2).mono ?_
    rintro e wr ⟨v2, rfl, hr2, hg2⟩
    have hg := grew_trans hal hg2
    have hp := Q1.out.apart hr2 (by simp)
    have Q2 := Lib.hid hr2
    obtain ⟨a2, n2, m2, rfl⟩ := hr2.sl
    have hRo' : RoseAt wr (w.heap.size + 1) wr.heap.size (.agg #[.slice a1 n1 m1, .slice a2 n2 m2]) (List.replicate c z) (List.replicate c s) :=
      ⟨_, _, rfl, RowAt.mono (Q1.out.grew (Nat.le_refl _) hg) (by simp) (Below.size hg), RowAt.mono Q2.out (by simp <;> omega) (Nat.le_refl _), hp⟩
    have HRO := Lib.hid hRo'
    have HGR := Lib.hid hg
    clear hr2 hg2 hal hp hRo' hg Q1 Q2
    go_wp2_with fail
    have hRo := HRO.out
    have hGR := HGR.out
    have hlo : w.heap.size + 1 ≤ w.heap.size + 1 := Nat.le_refl _
    have hzs : (List.replicate c z).length ≤ 1048576 := by have := HC.out; simp; omega
    have hus : (List.replicate c s).length ≤ 1048576 := by have := HC.out; simp; omega
    have d1 : Hid ((List.replicate c z).map (cl .f32) = List.replicate c V) := by show _ = _; rw [List.map_replicate, HZ.out]
    have d2 : Hid ((List.replicate c s).map (cl .f32) = List.replicate c (cl .f32 s)) := by show _ = _; rw [List.map_replicate]
    have hbv : vRose (List.replicate c z) (List.replicate c s) = BB := by rw [← HB.out, ← d1.out, ← d2.out]; rfl
    generalize hzz : List.replicate c z = zs at *
    generalize huu : List.replicate c s = us at *
    clear hzz huu HRO HGR
    have hG := Lib.hid (grew_trans G1.out hGR)
    refine (c_checkedRose _ _ _ _ _ _ hRo (Nat.le_refl _) hzs hus).mono ?_
    rintro e w4 ⟨rfl, hg4⟩
    rw [hbv]
    have hRo4 := Lib.hid (hRo.grew (Nat.le_refl _) hg4)
    have hG4 := Lib.hid (grew_trans hG.out hg4)
    have R4 := Lib.hid ((R1.out.grew z1 hGR).grew (Nat.lt_of_lt_of_le z1 (Below.size hGR)) hg4)
    have hsz4 : wr.heap.size ≤ w4.heap.size := Below.size hg4
    have hw1 : w1.heap.size ≤ wr.heap.size := Below.size hGR
    have z4 : w.heap.size < w4.heap.size := by omega
    clear hg4 hRo hGR hbv
    obtain ⟨⟨b0, b1⟩, b2, b3⟩ := R4.out
    cases BB
    · simp only [Bool.false_eq_true, if_false, ZRO]
      go_wp2_with fail
      refine bodyPost_ret (v := .tuple #[ZRO, .bool false]) (by simp [results, Try.results24, go_sem, b0, b1, ZRO]) rfl ?_
      exact ⟨_, [], [], rfl, rose_nil _ _ _, HD.out, HE.out, (by repeat (first | (with_reducible exact hG4.out) | (with_reducible exact grw_refl _) | (with_reducible refine grew_draw _ _ ?_) | (with_reducible refine grew_al ?_ _) | (with_reducible refine grew_set ?_ ?_; rotate_left; omega)))⟩
    · simp only [if_true]
      go_wp2_with fail
      have e0 := (cell_set_other _ _ 1 0 (.slice a2 n2 m2) (by omega)).trans (cell_set_own _ _ 0 (.slice a1 n1 m1) _ b0)
      have e1 := cell_set_own _ _ 1 (.slice a2 n2 m2) _ ((cell_set_other _ _ 0 1 (.slice a1 n1 m1) (by omega)).trans b1)
      have hW : Wrote (w.heap.size) (w.heap.size + 1) w4 ((w4.setCell ⟨w.heap.size, 0, none⟩ (.slice a1 n1 m1)).setCell ⟨w.heap.size, 1, none⟩ (.slice a2 n2 m2)) := (Wrote.of_outside (outside_set _ _ _ _)).trans (Wrote.of_outside (outside_set _ _ _ _))
      obtain ⟨X, Y, he, h1, h2, h3⟩ := hRo4.out
      have hz3 : w.heap.size ≤ w.heap.size + 1 := by have := Below.size G1.out; omega
      have hG5 : Grew w ((w4.setCell ⟨w.heap.size, 0, none⟩ (.slice a1 n1 m1)).setCell ⟨w.heap.size, 1, none⟩ (.slice a2 n2 m2)) := grew_set (grew_set hG4.out (by omega)) (by omega)
      have hsz5 : wr.heap.size ≤ ((w4.setCell ⟨w.heap.size, 0, none⟩ (.slice a1 n1 m1)).setCell ⟨w.heap.size, 1, none⟩ (.slice a2 n2 m2)).heap.size := Nat.le_trans hsz4 hW.size
      have hRo5 : RoseAt ((w4.setCell ⟨w.heap.size, 0, none⟩ (.slice a1 n1 m1)).setCell ⟨w.heap.size, 1, none⟩ (.slice a2 n2 m2)) w.heap.size _ (.agg #[.slice a1 n1 m1, .slice a2 n2 m2]) zs us :=
        ⟨X, Y, he, (h1.wrote hsz4 hW (.inr (by omega))).mono hz3 hsz5, (h2.wrote hsz4 hW (.inr (by omega))).mono hz3 hsz5, h3⟩
      generalize ((w4.setCell ⟨w.heap.size, 0, none⟩ (.slice a1 n1 m1)).setCell ⟨w.heap.size, 1, none⟩ (.slice a2 n2 m2)) = w5 at *
      refine bodyPost_ret (v := .tuple #[.agg #[.slice a1 n1 m1, .slice a2 n2 m2], .bool true]) (by simp [results, Try.results24, go_sem, e0, e1]) rfl ?_
      exact ⟨_, zs, us, rfl, hRo5, by first | exact d1.out.trans HD.out | exact HD.out, by first | exact d2.out.trans HE.out | exact HE.out, hG5⟩

end Go.Proofs.Ytebhefbpkcpnjaa
