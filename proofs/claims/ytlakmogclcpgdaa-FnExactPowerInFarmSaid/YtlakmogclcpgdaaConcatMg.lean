/-
  CONTRACTS: two rows laid one behind the other (slices.Concat of two).
-/
import Derived.Lib.AppendZeros
import Derived.Test.YtlakmogclcpgdaaOwn2Mg
namespace Go.Proofs.Ytlakmogclcpgdaa
open Go.RowKit Go.Flt
set_option linter.unusedVariables false
set_option maxRecDepth 100000
set_option linter.unusedSimpArgs false

theorem grown_row {w : World} {n : Nat} (h0 : 0 < n) (hm : n ≤ maxLen) (e : TypeId) (z : Value) (hz : z.cells.size = 1) :
    RowAt (Value.float .f32) e (w.drew.alloc (.cells (Builtin.zeroCells z.cells n ++ Builtin.zeroCells z.cells (grownCap w n 0 e - n)) e)) w.heap.size (w.heap.size + 1) (.slice (some ⟨w.heap.size, 0, none⟩) 0 (grownCap w n 0 e)) [] := by
  have hge := grownCap_ge w n 0 e
  have hcm : grownCap w n 0 e ≤ maxLen := grownCap_le_maxLen w n 0 e hm
  refine ⟨World.ownsRow_made (base := w.heap.size) (e := e) (size := 1) w.drew _ _ (Nat.le_refl _) hcm ?_, fun k hk => ?_⟩
  · simp only [Array.size_append, size_zeroCells, hz]
    omega
  · simp only [Value.ownBlock, Option.some.injEq] at hk
    omega

theorem c_Grow (n : Nat) (k : Int) (w : World) (hk : k = n) (h0 : 0 < n) (hn : n ≤ 1048576) :
    Calls Try.prog 90 #[.slice none 0 0, .int .i64 k] w fun e w' => ∃ v, e = .returned v ∧ FRow w' w.heap.size w'.heap.size v [] ∧ Grew w w' := by
  subst hk
  obtain ⟨i, hi, hz0, hz1, hz2⟩ := info_parts info_float32
  have hr := Lib.hid (fun w => Lib.run_append_nil_zeros (P := Try.prog) w 23 3 23 22 i (.float .f32 0) .i64 .i64 Try.underlying23 Try.underlying3 hi hz0 n h0 (by omega) (by omega) (by rw [hz2]; omega))
  have hrow := Lib.hid (fun w => grown_row (w := w) h0 (by unfold maxLen; omega) 22 (.float .f32 0) rfl)
  clear hi hz0 hz1 hz2
  have d1 : decide ((n : Int) < 0) = false := by simp
  have d2 : decide ((0 : Int) < (n : Int)) = true := by simp; omega
  go_enter Try.func90, Try.ntmps90
  go_wp2_with (at_builtin; refine Lib.wpList_append_run _ rfl _ _ 23 3 rfl _ _ rfl rfl _ _ (hr.out _) ?_)
  go_ret
  exact ⟨_, rfl, RowAt.mono (RowAt.keep (hrow.out w) (fun k _ _ => rfl)) (Nat.le_refl _) (by simp), by (show Below _ _ _; (repeat (first | exact Below.refl _ _ | refine ext_below ?_ (by first | omega | (simp only [size_ext, heap_push, Array.size_push, World.heap_drewN]; omega) | (simp; omega)) _ _ | refine below_draws ?_ _ | refine Below.alloc ?_ (by first | omega | (simp; done) | (simp; omega)) _ | refine Below.setCell ?_ (by first | omega | (simp; done) | (simp; omega)) _ | refine below_then (by assumption) (by first | omega | (simp; done) | (simp; omega)) ?_)))⟩

/-- Rows of two appends. -/
theorem fl_cells {w : World} {K n : Nat} {b off : Nat} {xs : List Nat} (h : Fl w K (some ⟨b, off, none⟩) n xs) : ∀ j u, (xs.map (Value.float .f32))[j]? = some u → w.cell? ((⟨b, off, none⟩ : Addr).add j) = some u := by
  intro j u hj
  rw [List.getElem?_map, Option.map_eq_some_iff] at hj
  obtain ⟨x, hx, rfl⟩ := hj
  have hn : 0 < n := by have := h.1; have := (List.getElem?_eq_some_iff.1 hx).1; omega
  obtain ⟨b', off', e, _, hc⟩ := h.2 hn
  simp only [Option.some.injEq, Addr.mk.injEq, and_true] at e
  obtain ⟨rfl, rfl⟩ := e
  rw [Addr.add_lit]
  exact hc j x hx

theorem one_cells (xs : List Nat) : ∀ u ∈ xs.map (Value.float .f32), u.oneCell' = true := by
  intro u hu
  obtain ⟨x, _, rfl⟩ := List.mem_map.1 hu
  rfl

/-- What an 'append' of many values leaves. -/
theorem row_app {w0 w w2 : World} {v v' : Value} {xs ys : List Nat} {t : TypeId} (hg0 : Grew w0 w) (hrow : RowAt (Value.float .f32) t w w0.heap.size w.heap.size v xs) (hown : w2.ownsRow w0.heap.size t 1 v' (xs.length + ys.length) (xs.map (Value.float .f32) ++ ys.map (Value.float .f32)))
    (hgr : w.grownBy w2 v.ownBlock) : RowAt (Value.float .f32) t w2 w0.heap.size w2.heap.size v' (xs ++ ys) ∧ Grew w0 w2 := by
  refine ⟨⟨by simpa using hown, fun k hk => (hown.lt k hk).2⟩, hgr.os.trans hg0.os, hgr.tape.trans hg0.tape, hgr.output.trans hg0.output, ?_, fun k hk => ?_⟩
  · have a := hgr.size
    have b := Below.size hg0
    omega
  · have b := Below.size hg0
    rw [hgr.block k (by omega) (fun e => by have := (hrow.1.lt k e.symm).1; omega)]
    exact hg0.block k hk

set_option maxHeartbeats 1000000 in
theorem c_Concat (b cap : Nat) (A A' : Option Addr) (n c n' c' K : Nat) (xs ys : List Nat) (w : World) (hb : w.cell? ⟨b, 0, none⟩ = some (.slice A n c)) (hb' : w.cell? ⟨b, 1, none⟩ = some (.slice A' n' c')) (hbw : b < w.heap.size)
    (hx : Fl w K A n xs) (hy : Fl w K A' n' ys) (hK : K ≤ w.heap.size) (h1 : 0 < xs.length) (h2 : 0 < ys.length) (h3 : xs.length ≤ 1024) (h4 : ys.length ≤ 1024) :
    Calls Try.prog 77 #[.slice (some ⟨b, 0, none⟩) 2 cap] w fun e w' => ∃ v, e = .returned v ∧ FRow w' w.heap.size w'.heap.size v (xs ++ ys) ∧ Grew w w' := by
  obtain rfl := hx.1
  obtain rfl := hy.1
  have HX := Lib.hid hx
  have HY := Lib.hid hy
  clear hx hy
  obtain ⟨i, hi, hz0, hz1, hz2⟩ := info_parts info_float32
  have HI := Lib.hid hi
  have HI0 := Lib.hid hz0
  have HI1 := Lib.hid hz1
  have HI2 := Lib.hid hz2
  clear hi hz0 hz1 hz2
  have d1 : decide ((xs.length : Int) < 0) = false := by simp
  have d2 : decide ((xs.length : Int) + (ys.length : Int) < 0) = false := by simp; omega
  obtain ⟨bx, ox, rfl, hbx, _⟩ := HX.out.2 h1
  obtain ⟨by', oy, rfl, hby, _⟩ := HY.out.2 h2
  go_enter Try.func77, Try.ntmps77
  go_wp2_with fail
  refine wp_loop_rounds 3 ?_
  rw [rounds_succ]
  go_wp2_with fail
  rw [rounds_succ]
  go_wp2_with fail
  rw [rounds_succ]
  go_wp2_with fail
  refine (c_Grow (xs.length + ys.length) _ w (by simp) (by omega) (by omega)).mono ?_
  rintro e w1 ⟨v1, rfl, hr1, hg1⟩
  have R1 := Lib.hid hr1
  have G1 := Lib.hid hg1
  have k1 := ((bcell hg1).1 b 0 hbw).trans hb
  have k2 := ((bcell hg1).1 b 1 hbw).trans hb'
  have X1 := Lib.hid (fl_cells (Slc.grew (g := Value.float .f32) HX.out hK hg1))
  have HB := Lib.hid hb'
  clear hr1 hg1 hb hb' k2
  go_wp2_with fail
  refine wp_loop_rounds 3 ?_
  rw [rounds_succ]
  go_wp2_with (at_builtin; refine wpList_append_own _ rfl _ _ 23 rfl w.heap.size 22 i (.float .f32 0) 1 4 Try.underlying23 HI.out HI0.out HI1.out HI2.out rfl (by decide) _ 0 [] rfl R1.out.1 ⟨bx, ox, none⟩ xs.length _ (xs.map (Value.float .f32)) rfl (by simp) X1.out (one_cells _) (by unfold maxLen; omega) (by omega) (Below.size G1.out) ?_; rintro v2 w2 hown hgr _; have hra := Lib.hid (row_app G1.out R1.out hown hgr); clear hown hgr)
  clear k1
  have k2 := ((bcell hra.out.2).1 b 1 hbw).trans HB.out
  have Y2 := Lib.hid (fl_cells (Slc.grew (g := Value.float .f32) HY.out hK hra.out.2))
  have R2 : Hid (FRow w2 w.heap.size w2.heap.size v2 xs) := hra.out.1
  have G2 := Lib.hid hra.out.2
  clear hra X1 R1 G1
  rw [rounds_succ]
  go_wp2_with (at_builtin; refine wpList_append_own _ rfl _ _ 23 rfl w.heap.size 22 i (.float .f32 0) 1 4 Try.underlying23 HI.out HI0.out HI1.out HI2.out rfl (by decide) _ xs.length _ rfl R2.out.1 ⟨by', oy, none⟩ ys.length _ (ys.map (Value.float .f32)) rfl (by simp) Y2.out (one_cells _) (by unfold maxLen; omega) (by omega) (Below.size G2.out) ?_; rintro v3 w3 hown hgr _; have hra := Lib.hid (row_app G2.out R2.out hown hgr); clear hown hgr)
  clear k2 Y2 R2 G2
  rw [rounds_succ]
  go_wp2_with fail
  go_ret
  exact ⟨_, rfl, by simpa using hra.out.1, hra.out.2⟩

end Go.Proofs.Ytlakmogclcpgdaa

/-
  CONTRACTS: when a farm is valid.
-/
namespace Go.Proofs.Ytlakmogclcpgdaa
open Go.RowKit Go.Flt
set_option linter.unusedVariables false
set_option maxRecDepth 100000
set_option linter.unusedSimpArgs false

/-- A coordinate. -/
def near (x : Nat) : Bool := fromTo (cl .f32 x) (cl .f32 3351465984) (cl .f32 1203982336)

def vFarm (xs ys : List Nat) (r d s : Nat) : Bool :=
  decide (1 ≤ xs.length) && decide (xs.length ≤ 12) && decide (ys.length = xs.length) && above (cl .f32 r) && above (cl .f32 s) && !flt (cl .f32 1148846080) (cl .f32 r) && fromTo (cl .f32 d) (cl .f32 0) (cl .f32 1056964608) && xs.all near && ys.all near

theorem vFarm_no {xs ys : List Nat} {r d s : Nat} (h : decide (1 ≤ xs.length) = false ∨ decide (xs.length ≤ 12) = false ∨ decide (ys.length = xs.length) = false ∨ above (cl .f32 r) = false ∨ above (cl .f32 s) = false ∨ flt (cl .f32 1148846080) (cl .f32 r) = true ∨
    fromTo (cl .f32 d) (cl .f32 0) (cl .f32 1056964608) = false ∨ xs.all near = false ∨ ys.all near = false) : vFarm xs ys r d s = false := by
  unfold vFarm
  rcases h with h | h | h | h | h | h | h | h | h <;> simp only [h, Bool.false_and, Bool.and_false, Bool.not_true]

theorem vFarm_at {xs ys : List Nat} {r d s : Nat} (h1 : 1 ≤ xs.length) (h2 : xs.length ≤ 12) (h3 : ys.length = xs.length) (h4 : above (cl .f32 r) = true) (h5 : above (cl .f32 s) = true) (h6 : flt (cl .f32 1148846080) (cl .f32 r) = false) (h7 : fromTo (cl .f32 d) (cl .f32 0) (cl .f32 1056964608) = true) :
    vFarm xs ys r d s = (xs.all near && ys.all near) := by
  unfold vFarm
  simp [h1, h2, h3, h4, h5, h6, h7]

theorem c_pos2 (r s cap b : Nat) (w : World) (h : Fl w (b + 1) (some ⟨b, 0, none⟩) 2 [r, s]) : Calls Try.prog 74 #[.slice (some ⟨b, 0, none⟩) 2 cap] w fun e w' => e = .returned (.bool (above (cl .f32 r) && above (cl .f32 s))) ∧ ∃ n, w' = w.drewN n := by
  have := c_arePositive _ cap _ _ w h (by simp [maxLen])
  have e : (![r, s].any fun x => !fin (cl .f32 x) || fle (cl .f32 x) (cl .f32 0)) = (above (cl .f32 r) && above (cl .f32 s)) := by
    rw [← above_not, ← above_not]
    simp [Bool.not_or]
  rw [e] at this
  exact this

set_option maxHeartbeats 2000000 in
theorem c_implValidFarm (A C : Option Addr) (n cA m cC K : Nat) (xs ys : List Nat) (r d s : Nat) (w : World) (hx : Fl w K A n xs) (hy : Fl w K C m ys) (hK : K ≤ w.heap.size) :
    Calls Try.prog 48 #[.agg #[.slice A n cA, .slice C m cC, .float .f32 r, .float .f32 d, .float .f32 s]] w fun e w' => e = .returned (.bool (vFarm xs ys r d s)) ∧ Grew w w' := by
  obtain rfl := hx.1
  obtain rfl := hy.1
  have HX := Lib.hid (fun w' h => Slc.grew (g := Value.float .f32) (w' := w') hx hK h)
  have HY := Lib.hid (fun w' h => Slc.grew (g := Value.float .f32) (w' := w') hy hK h)
  clear hx hy
  have HP := Lib.hid (c_pos2 r s)
  cases c1 : decide ((xs.length : Int) < 1)
  case true =>
    have hv := vFarm_no (xs := xs) (ys := ys) (r := r) (d := d) (s := s) (.inl (decide_eq_false (by have := of_decide_eq_true c1; omega)))
    have HV := Lib.hid hv
    clear hv
    go_enter Try.func48, Try.ntmps48
    go_wp2_with fail
    go_ret
    exact ⟨by rw [HV.out]; rfl, by (show Below _ _ _; (repeat (first | exact Below.refl _ _ | refine ext_below ?_ (by first | omega | (simp only [size_ext, heap_push, Array.size_push, World.heap_drewN]; omega) | (simp; omega)) _ _ | refine below_draws ?_ _ | refine Below.alloc ?_ (by first | omega | (simp; done) | (simp; omega)) _ | refine Below.setCell ?_ (by first | omega | (simp; done) | (simp; omega)) _ | refine below_then (by assumption) (by first | omega | (simp; done) | (simp; omega)) ?_)))⟩
  cases c2 : decide ((12 : Int) < (xs.length : Int))
  case true =>
    have hv := vFarm_no (xs := xs) (ys := ys) (r := r) (d := d) (s := s) (.inr (.inl (by simp at c2 ⊢; omega)))
    have HV := Lib.hid hv
    clear hv
    go_enter Try.func48, Try.ntmps48
    go_wp2_with fail
    go_ret
    exact ⟨by rw [HV.out]; rfl, by (show Below _ _ _; (repeat (first | exact Below.refl _ _ | refine ext_below ?_ (by first | omega | (simp only [size_ext, heap_push, Array.size_push, World.heap_drewN]; omega) | (simp; omega)) _ _ | refine below_draws ?_ _ | refine Below.alloc ?_ (by first | omega | (simp; done) | (simp; omega)) _ | refine Below.setCell ?_ (by first | omega | (simp; done) | (simp; omega)) _ | refine below_then (by assumption) (by first | omega | (simp; done) | (simp; omega)) ?_)))⟩
  cases c3 : ((ys.length : Int) != (xs.length : Int))
  case true =>
    have hv := vFarm_no (xs := xs) (ys := ys) (r := r) (d := d) (s := s) (.inr (.inr (.inl (by simp at c3 ⊢; omega))))
    have HV := Lib.hid hv
    clear hv
    go_enter Try.func48, Try.ntmps48
    go_wp2_with fail
    go_ret
    exact ⟨by rw [HV.out]; rfl, by (show Below _ _ _; (repeat (first | exact Below.refl _ _ | refine ext_below ?_ (by first | omega | (simp only [size_ext, heap_push, Array.size_push, World.heap_drewN]; omega) | (simp; omega)) _ _ | refine below_draws ?_ _ | refine Below.alloc ?_ (by first | omega | (simp; done) | (simp; omega)) _ | refine Below.setCell ?_ (by first | omega | (simp; done) | (simp; omega)) _ | refine below_then (by assumption) (by first | omega | (simp; done) | (simp; omega)) ?_)))⟩
  have k1 : 1 ≤ xs.length := by simp at c1; omega
  have k2 : xs.length ≤ 12 := by simp at c2; omega
  have k3 : ys.length = xs.length := by simp at c3; omega
  cases c4 : (above (cl .f32 r) && above (cl .f32 s))
  case false =>
    have hv := vFarm_no (xs := xs) (ys := ys) (r := r) (d := d) (s := s) (by
      rw [Bool.and_eq_false_iff] at c4
      rcases c4 with h | h
      · exact .inr (.inr (.inr (.inl h)))
      · exact .inr (.inr (.inr (.inr (.inl h)))))
    have HV := Lib.hid hv
    clear hv
    go_enter Try.func48, Try.ntmps48
    go_wp2_with (go_at_call 74; refine (HP.out _ _ _ (fl_new _ [r, s] _ _ _ (by simp) rfl)).mono ?_; rintro e w' ⟨rfl, nq, rfl⟩)
    go_ret
    exact ⟨by rw [HV.out]; rfl, by (show Below _ _ _; (repeat (first | exact Below.refl _ _ | refine ext_below ?_ (by first | omega | (simp only [size_ext, heap_push, Array.size_push, World.heap_drewN]; omega) | (simp; omega)) _ _ | refine below_draws ?_ _ | refine Below.alloc ?_ (by first | omega | (simp; done) | (simp; omega)) _ | refine Below.setCell ?_ (by first | omega | (simp; done) | (simp; omega)) _ | refine below_then (by assumption) (by first | omega | (simp; done) | (simp; omega)) ?_)))⟩
  have k4 : above (cl .f32 r) = true ∧ above (cl .f32 s) = true := by simpa using c4
  have K4 := Lib.hid k4
  clear k4
  cases c5 : flt (cl .f32 1148846080) (cl .f32 r)
  case true =>
    have hv := vFarm_no (xs := xs) (ys := ys) (r := r) (d := d) (s := s) (.inr (.inr (.inr (.inr (.inr (.inl c5))))))
    have HV := Lib.hid hv
    clear hv
    go_enter Try.func48, Try.ntmps48
    go_wp2_with (go_at_call 74; refine (HP.out _ _ _ (fl_new _ [r, s] _ _ _ (by simp) rfl)).mono ?_; rintro e w' ⟨rfl, nq, rfl⟩)
    go_ret
    exact ⟨by rw [HV.out]; rfl, by (show Below _ _ _; (repeat (first | exact Below.refl _ _ | refine ext_below ?_ (by first | omega | (simp only [size_ext, heap_push, Array.size_push, World.heap_drewN]; omega) | (simp; omega)) _ _ | refine below_draws ?_ _ | refine Below.alloc ?_ (by first | omega | (simp; done) | (simp; omega)) _ | refine Below.setCell ?_ (by first | omega | (simp; done) | (simp; omega)) _ | refine below_then (by assumption) (by first | omega | (simp; done) | (simp; omega)) ?_)))⟩
  cases c6 : fromTo (cl .f32 d) (cl .f32 0) (cl .f32 1056964608)
  case false =>
    have hv := vFarm_no (xs := xs) (ys := ys) (r := r) (d := d) (s := s) (.inr (.inr (.inr (.inr (.inr (.inr (.inl c6)))))))
    have HV := Lib.hid hv
    clear hv
    go_enter Try.func48, Try.ntmps48
    go_wp2_with (first | (go_at_call 75; refine (c_isFromTo _ _ _ _).mono ?_; rintro e w' ⟨rfl, nq, rfl⟩) | (go_at_call 74; refine (HP.out _ _ _ (fl_new _ [r, s] _ _ _ (by simp) rfl)).mono ?_; rintro e w' ⟨rfl, nq, rfl⟩))
    go_ret
    exact ⟨by rw [HV.out]; rfl, by (show Below _ _ _; (repeat (first | exact Below.refl _ _ | refine ext_below ?_ (by first | omega | (simp only [size_ext, heap_push, Array.size_push, World.heap_drewN]; omega) | (simp; omega)) _ _ | refine below_draws ?_ _ | refine Below.alloc ?_ (by first | omega | (simp; done) | (simp; omega)) _ | refine Below.setCell ?_ (by first | omega | (simp; done) | (simp; omega)) _ | refine below_then (by assumption) (by first | omega | (simp; done) | (simp; omega)) ?_)))⟩
  have HY3 : Hid (∀ w', Grew w w' → Fl w' K C xs.length ys) := fun w' h => by
    have := HY.out w' h
    rwa [k3] at this
  have HV := Lib.hid (vFarm_at k1 k2 k3 K4.out.1 K4.out.2 c5 c6)
  go_enter Try.func48, Try.ntmps48
  go_wp2_with (first | (go_at_call 75; refine (c_isFromTo _ _ _ _).mono ?_; rintro e w' ⟨rfl, nq, rfl⟩) | (go_at_call 74; refine (HP.out _ _ _ (fl_new _ [r, s] _ _ _ (by simp) rfl)).mono ?_; rintro e w' ⟨rfl, nq, rfl⟩))
  refine Calls.mono (c_Concat _ _ A C xs.length cA xs.length cC K xs ys _ ?h1 ?h2 ?h3 ?h4 ?h5 ?h6 (by omega) (by omega) (by omega) (by omega)) ?_
  case h1 => simp [go_sem]
  case h2 => simp [go_sem]
  case h3 => simp
  case h4 => exact HX.out _ (by (show Below _ _ _; (repeat (first | exact Below.refl _ _ | refine ext_below ?_ (by first | omega | (simp only [size_ext, heap_push, Array.size_push, World.heap_drewN]; omega) | (simp; omega)) _ _ | refine below_draws ?_ _ | refine Below.alloc ?_ (by first | omega | (simp; done) | (simp; omega)) _ | refine Below.setCell ?_ (by first | omega | (simp; done) | (simp; omega)) _ | refine below_then (by assumption) (by first | omega | (simp; done) | (simp; omega)) ?_))))
  case h5 => exact HY3.out _ (by (show Below _ _ _; (repeat (first | exact Below.refl _ _ | refine ext_below ?_ (by first | omega | (simp only [size_ext, heap_push, Array.size_push, World.heap_drewN]; omega) | (simp; omega)) _ _ | refine below_draws ?_ _ | refine Below.alloc ?_ (by first | omega | (simp; done) | (simp; omega)) _ | refine Below.setCell ?_ (by first | omega | (simp; done) | (simp; omega)) _ | refine below_then (by assumption) (by first | omega | (simp; done) | (simp; omega)) ?_))))
  case h6 => simp; omega
  rintro e w1 ⟨v1, rfl, hr1, hg1⟩
  have G1 := Lib.hid (grew_trans (show Grew w _ by (show Below _ _ _; (repeat (first | exact Below.refl _ _ | refine ext_below ?_ (by first | omega | (simp only [size_ext, heap_push, Array.size_push, World.heap_drewN]; omega) | (simp; omega)) _ _ | refine below_draws ?_ _ | refine Below.alloc ?_ (by first | omega | (simp; done) | (simp; omega)) _ | refine Below.setCell ?_ (by first | omega | (simp; done) | (simp; omega)) _ | refine below_then (by assumption) (by first | omega | (simp; done) | (simp; omega)) ?_)))) hg1)
  obtain ⟨zs, hzs⟩ : ∃ zs, zs = xs ++ ys := ⟨_, rfl⟩
  rw [← hzs] at hr1
  have hzl : zs.length ≤ 1048576 := by rw [hzs]; simp; omega
  have HZ := Lib.hid hzs
  clear hzs
  obtain ⟨A1, c1, rfl, hs1⟩ := hr1.slc
  have S1 := Lib.hid hs1
  clear hr1 hs1 hg1
  go_wp2_with (go_at_call 76; refine (c_ContainsFunc4 _ _ _ zs _ S1.out (by unfold maxLen; omega)).mono ?_; rintro e w' ⟨rfl, nq, rfl⟩)
  go_ret
  exact ⟨by
    have e : (!zs.any fun x => !fromTo (cl .f32 x) (cl .f32 3351465984) (cl .f32 1203982336)) = (xs.all near && ys.all near) := by
      rw [HZ.out, List.any_append, Bool.not_or, List.all_eq_not_any_not, List.all_eq_not_any_not]
      rfl
    rw [HV.out, ← e]
    rfl, grew_draw _ _ G1.out⟩

theorem c_l06Near (x : Nat) (w : World) : Calls Try.prog 73 #[.float .f32 x] w fun e w' => e = .returned (.bool (near x)) ∧ ∃ n, w' = w.drewN n := by
  go_enter Try.func73, Try.ntmps73
  go_wp2_with fail
  all_goals
    go_ret
    exact ⟨by simp [near, fromTo, fge, fle, *], 0, rfl⟩

theorem near_no {xs ys : List Nat} {r d s k : Nat} (hk : k < xs.length) (hl : ys.length = xs.length) (h : (near (xs.getD k 0) && near (ys.getD k 0)) = false) : vFarm xs ys r d s = false := by
  rw [Bool.and_eq_false_iff] at h
  rcases h with h | h
  · refine vFarm_no (.inr (.inr (.inr (.inr (.inr (.inr (.inr (.inl ?_))))))))
    rw [List.all_eq_false]
    exact ⟨xs[k], List.getElem_mem hk, by simpa [List.getD, hk] using h⟩
  · refine vFarm_no (.inr (.inr (.inr (.inr (.inr (.inr (.inr (.inr ?_))))))))
    rw [List.all_eq_false]
    have hk' : k < ys.length := by omega
    exact ⟨ys[k], List.getElem_mem hk', by simpa [List.getD, hk'] using h⟩

theorem near_all {xs ys : List Nat} (hl : ys.length = xs.length) (h : ∀ k, k < xs.length → near (xs.getD k 0) = true ∧ near (ys.getD k 0) = true) : (xs.all near && ys.all near) = true := by
  rw [Bool.and_eq_true, List.all_eq_true, List.all_eq_true]
  constructor
  · intro x hx
    obtain ⟨k, hk, rfl⟩ := List.getElem_of_mem hx
    simpa [List.getD, hk] using (h k hk).1
  · intro x hx
    obtain ⟨k, hk, rfl⟩ := List.getElem_of_mem hx
    simpa [List.getD, hk] using (h k (by omega)).2

set_option maxHeartbeats 4000000 in
theorem c_l06Is (b : Nat) (A C : Option Addr) (n cA m cC K : Nat) (xs ys : List Nat) (r d s : Nat) (w : World) (hf : FmAt w b (.slice A n cA) (.slice C m cC) r d s) (hx : Fl w K A n xs) (hy : Fl w K C m ys) (hn : n ≤ maxLen) (hm : m ≤ maxLen) :
    Calls Try.prog 45 #[.pointer (some ⟨b, 0, none⟩)] w fun e w' => e = .returned (.bool (vFarm xs ys r d s)) ∧ ∃ n, w' = w.drewN n := by
  obtain rfl := hx.1
  obtain rfl := hy.1
  have HX := Lib.hid hx
  have HY := Lib.hid hy
  clear hx hy
  obtain ⟨p0, p1, p2, p3, p4⟩ := hf
  cases c1 : decide ((xs.length : Int) < 1)
  case true =>
    have hv := vFarm_no (xs := xs) (ys := ys) (r := r) (d := d) (s := s) (.inl (decide_eq_false (by have := of_decide_eq_true c1; omega)))
    have HV := Lib.hid hv
    clear hv
    go_enter Try.func45, Try.ntmps45
    go_wp2_with fail
    go_ret
    exact ⟨by rw [HV.out]; rfl, by (first | exact ⟨_, rfl⟩ | exact ⟨0, rfl⟩ | exact ⟨_, World.drewN_drewN _ _ _⟩ | (simp only [World.drewN_drewN]; exact ⟨_, rfl⟩))⟩
  cases c2 : decide ((12 : Int) < (xs.length : Int))
  case true =>
    have hv := vFarm_no (xs := xs) (ys := ys) (r := r) (d := d) (s := s) (.inr (.inl (by simp at c2 ⊢; omega)))
    have HV := Lib.hid hv
    clear hv
    go_enter Try.func45, Try.ntmps45
    go_wp2_with fail
    go_ret
    exact ⟨by rw [HV.out]; rfl, by (first | exact ⟨_, rfl⟩ | exact ⟨0, rfl⟩ | exact ⟨_, World.drewN_drewN _ _ _⟩ | (simp only [World.drewN_drewN]; exact ⟨_, rfl⟩))⟩
  cases c3 : ((ys.length : Int) != (xs.length : Int))
  case true =>
    have hv := vFarm_no (xs := xs) (ys := ys) (r := r) (d := d) (s := s) (.inr (.inr (.inl (by simp at c3 ⊢; omega))))
    have HV := Lib.hid hv
    clear hv
    go_enter Try.func45, Try.ntmps45
    go_wp2_with fail
    go_ret
    exact ⟨by rw [HV.out]; rfl, by (first | exact ⟨_, rfl⟩ | exact ⟨0, rfl⟩ | exact ⟨_, World.drewN_drewN _ _ _⟩ | (simp only [World.drewN_drewN]; exact ⟨_, rfl⟩))⟩
  have k1 : 1 ≤ xs.length := by simp at c1; omega
  have k2 : xs.length ≤ 12 := by simp at c2; omega
  have k3 : ys.length = xs.length := by simp at c3; omega
  have K3 := Lib.hid k3
  cases c4 : above (cl .f32 r)
  case false =>
    have HV := Lib.hid (vFarm_no (xs := xs) (ys := ys) (r := r) (d := d) (s := s) (.inr (.inr (.inr (.inl c4)))))
    go_enter Try.func45, Try.ntmps45
    go_wp2_with (go_at_call 72; refine (c_l02Above _ _).mono ?_; rintro e w' ⟨rfl, nq, rfl⟩)
    go_ret
    exact ⟨by rw [HV.out]; rfl, by (first | exact ⟨_, rfl⟩ | exact ⟨0, rfl⟩ | exact ⟨_, World.drewN_drewN _ _ _⟩ | (simp only [World.drewN_drewN]; exact ⟨_, rfl⟩))⟩
  cases c5 : flt (cl .f32 1148846080) (cl .f32 r)
  case true =>
    have HV := Lib.hid (vFarm_no (xs := xs) (ys := ys) (r := r) (d := d) (s := s) (.inr (.inr (.inr (.inr (.inr (.inl c5)))))))
    go_enter Try.func45, Try.ntmps45
    go_wp2_with (go_at_call 72; refine (c_l02Above _ _).mono ?_; rintro e w' ⟨rfl, nq, rfl⟩)
    go_ret
    exact ⟨by rw [HV.out]; rfl, by (first | exact ⟨_, rfl⟩ | exact ⟨0, rfl⟩ | exact ⟨_, World.drewN_drewN _ _ _⟩ | (simp only [World.drewN_drewN]; exact ⟨_, rfl⟩))⟩
  cases c6 : above (cl .f32 s)
  case false =>
    have HV := Lib.hid (vFarm_no (xs := xs) (ys := ys) (r := r) (d := d) (s := s) (.inr (.inr (.inr (.inr (.inl c6))))))
    go_enter Try.func45, Try.ntmps45
    go_wp2_with (go_at_call 72; refine (c_l02Above _ _).mono ?_; rintro e w' ⟨rfl, nq, rfl⟩)
    go_ret
    exact ⟨by rw [HV.out]; rfl, by (first | exact ⟨_, rfl⟩ | exact ⟨0, rfl⟩ | exact ⟨_, World.drewN_drewN _ _ _⟩ | (simp only [World.drewN_drewN]; exact ⟨_, rfl⟩))⟩
  by_cases c7 : fromTo (cl .f32 d) (cl .f32 0) (cl .f32 1056964608) = true
  · have HV := Lib.hid (vFarm_at (d := d) k1 k2 k3 c4 c6 c5 c7)
    unfold fromTo fge fle at c7
    simp only [Bool.and_eq_true, Bool.or_eq_true] at c7
    obtain ⟨h1, h2⟩ := c7
    have h1' : flt (cl .f32 0) (cl .f32 d) = true ∨ (flt (cl .f32 0) (cl .f32 d) = false ∧ feq (cl .f32 d) (cl .f32 0) = true) := by
      cases h : flt (cl .f32 0) (cl .f32 d)
      · rw [h] at h1; exact .inr ⟨rfl, by simpa using h1⟩
      · exact .inl rfl
    have h2' : flt (cl .f32 d) (cl .f32 1056964608) = true ∨ (flt (cl .f32 d) (cl .f32 1056964608) = false ∧ feq (cl .f32 d) (cl .f32 1056964608) = true) := by
      cases h : flt (cl .f32 d) (cl .f32 1056964608)
      · rw [h] at h2; exact .inr ⟨rfl, by simpa using h2⟩
      · exact .inl rfl
    clear h1 h2 hn hm
    rcases h1' with h1 | ⟨h1, h1'⟩ <;> rcases h2' with h2 | ⟨h2, h2'⟩
    all_goals
      go_enter Try.func45, Try.ntmps45
      go_wp2_with (go_at_call 72; refine (c_l02Above _ _).mono ?_; rintro e w' ⟨rfl, nq, rfl⟩)
      go_loopw [4] (fun i wr => ∃ k : Nat, k ≤ xs.length ∧ i = .int .i64 k ∧ Hid (∀ j, j < k → near (xs.getD j 0) = true ∧ near (ys.getD j 0) = true) ∧ ∃ m, wr = w.drewN m) (fun i _ => xs.length - (intOf i).toNat)
      case atStart => exact ⟨0, Nat.zero_le _, rfl, fun _ h => absurd h (by omega), by (first | exact ⟨_, rfl⟩ | exact ⟨0, rfl⟩ | exact ⟨_, World.drewN_drewN _ _ _⟩ | (simp only [World.drewN_drewN]; exact ⟨_, rfl⟩))⟩
      case round =>
        obtain ⟨k, hk, rfl, hall, m, rfl⟩ := hrel
        by_cases hlt : k < xs.length
        · obtain ⟨bx, ox, rfl, _, hc⟩ := HX.out.2 (by omega)
          obtain ⟨by', oy, rfl, _, hc'⟩ := HY.out.2 (by omega)
          have hc1 := hc k (xs.getD k 0) (by simp [hlt])
          have hc2 := hc' k (ys.getD k 0) (by simp [show k < ys.length by omega])
          clear hc hc'
          have i3 : (0 : Int) ≤ (k : Int) := by omega
          have i4 : (k : Int) < (xs.length : Int) := by omega
          have HN := Lib.hid (fun h => near_no (xs := xs) (ys := ys) (r := r) (d := d) (s := s) hlt K3.out h)
          have HA := Lib.hid (fun (h : near (xs.getD k 0) = true ∧ near (ys.getD k 0) = true) => (fun j (hj : j < k + 1) => (by
            rcases Nat.lt_or_ge j k with h' | h'
            · exact hall.out j h'
            · obtain rfl : j = k := by omega
              exact h : near (xs.getD j 0) = true ∧ near (ys.getD j 0) = true)))
          clear hall
          generalize xs.getD k 0 = x at *
          generalize ys.getD k 0 = y at *
          cases n1 : near x
          · have HF := Lib.hid (HN.out (by rw [n1]; rfl))
            go_wp2_with (go_at_call 73; refine (c_l06Near _ _).mono ?_; rintro e w' ⟨rfl, nq, rfl⟩)
            go_ret
            exact ⟨by rw [HF.out]; rfl, by (first | exact ⟨_, rfl⟩ | exact ⟨0, rfl⟩ | exact ⟨_, World.drewN_drewN _ _ _⟩ | (simp only [World.drewN_drewN]; exact ⟨_, rfl⟩))⟩
          · cases n2 : near y
            · have HF := Lib.hid (HN.out (by rw [n1, n2]; rfl))
              go_wp2_with (go_at_call 73; refine (c_l06Near _ _).mono ?_; rintro e w' ⟨rfl, nq, rfl⟩)
              go_ret
              exact ⟨by rw [HF.out]; rfl, by (first | exact ⟨_, rfl⟩ | exact ⟨0, rfl⟩ | exact ⟨_, World.drewN_drewN _ _ _⟩ | (simp only [World.drewN_drewN]; exact ⟨_, rfl⟩))⟩
            · have HF := Lib.hid (HA.out ⟨n1, n2⟩)
              go_wp2_with (go_at_call 73; refine (c_l06Near _ _).mono ?_; rintro e w' ⟨rfl, nq, rfl⟩)
              go_roundw
              case rel => exact ⟨k + 1, by omega, by go_num, HF, by (first | exact ⟨_, rfl⟩ | exact ⟨0, rfl⟩ | exact ⟨_, World.drewN_drewN _ _ _⟩ | (simp only [World.drewN_drewN]; exact ⟨_, rfl⟩))⟩
              case measure => simp [intOf]; omega
        · have HE := Lib.hid (near_all K3.out fun j hj => hall.out j (by omega))
          clear hall
          go_wp2_with fail
          go_ret
          exact ⟨by rw [HV.out, HE.out]; rfl, by (first | exact ⟨_, rfl⟩ | exact ⟨0, rfl⟩ | exact ⟨_, World.drewN_drewN _ _ _⟩ | (simp only [World.drewN_drewN]; exact ⟨_, rfl⟩))⟩
  · rw [Bool.not_eq_true] at c7
    have HV := Lib.hid (vFarm_no (xs := xs) (ys := ys) (r := r) (d := d) (s := s) (.inr (.inr (.inr (.inr (.inr (.inr (.inl c7))))))))
    unfold fromTo fge fle at c7
    rw [Bool.and_eq_false_iff, Bool.or_eq_false_iff, Bool.or_eq_false_iff] at c7
    rcases c7 with ⟨h1, h2⟩ | ⟨h1, h2⟩
    · go_enter Try.func45, Try.ntmps45
      go_wp2_with (go_at_call 72; refine (c_l02Above _ _).mono ?_; rintro e w' ⟨rfl, nq, rfl⟩)
      go_ret
      exact ⟨by rw [HV.out]; rfl, by (first | exact ⟨_, rfl⟩ | exact ⟨0, rfl⟩ | exact ⟨_, World.drewN_drewN _ _ _⟩ | (simp only [World.drewN_drewN]; exact ⟨_, rfl⟩))⟩
    · cases h3 : flt (cl .f32 0) (cl .f32 d) <;> cases h4 : feq (cl .f32 d) (cl .f32 0)
      all_goals
        go_enter Try.func45, Try.ntmps45
        go_wp2_with (go_at_call 72; refine (c_l02Above _ _).mono ?_; rintro e w' ⟨rfl, nq, rfl⟩)
        go_ret
        exact ⟨by rw [HV.out]; rfl, by (first | exact ⟨_, rfl⟩ | exact ⟨0, rfl⟩ | exact ⟨_, World.drewN_drewN _ _ _⟩ | (simp only [World.drewN_drewN]; exact ⟨_, rfl⟩))⟩

/-- Of a farm of a call's own. -/
theorem c_implValidFarm' (lo hi : Nat) (v : Value) (xs ys : List Nat) (r d s : Nat) (w : World) (h : FarmAt w lo hi v xs ys r d s) (hs : hi ≤ w.heap.size) :
    Calls Try.prog 48 #[v] w fun e w' => e = .returned (.bool (vFarm xs ys r d s)) ∧ Grew w w' := by
  obtain ⟨A, c, C, e, rfl, hx, hy⟩ := h.parts
  exact c_implValidFarm A C _ c _ e hi xs ys r d s w hx hy hs

end Go.Proofs.Ytlakmogclcpgdaa

/-
  ROWS IN A FARM's BOX; a farm that is checked and given back.
-/
namespace Go.Proofs.Ytlakmogclcpgdaa
open Go.RowKit Go.Flt
set_option linter.unusedVariables false
set_option maxRecDepth 100000
set_option linter.unusedSimpArgs false

/-- A farm's numbers in its box. -/
def FmBox (w : World) (b r d s : Nat) : Prop := w.cell? ⟨b, 2, none⟩ = some (.float .f32 r) ∧ w.cell? ⟨b, 3, none⟩ = some (.float .f32 d) ∧ w.cell? ⟨b, 4, none⟩ = some (.float .f32 s)

theorem FmBox.keep {w w' : World} {b r d s : Nat} (h : FmBox w b r d s) (e : w'.heap[b]? = w.heap[b]?) : FmBox w' b r d s :=
  ⟨(cell_same e 2).trans h.1, (cell_same e 3).trans h.2.1, (cell_same e 4).trans h.2.2⟩

theorem FmBox.set {w : World} {b r d s : Nat} (h : FmBox w b r d s) (o : Nat) (ho : o < 2) (u : Value) : FmBox (w.setCell ⟨b, o, none⟩ u) b r d s :=
  ⟨(cell_set_other _ _ _ _ _ (by omega)).trans h.1, (cell_set_other _ _ _ _ _ (by omega)).trans h.2.1, (cell_set_other _ _ _ _ _ (by omega)).trans h.2.2⟩

/-- Two rows in a farm's box, just made. -/
theorem mix_boxedF {w0 w : World} {lo : Nat} {S1 S2 : Value} {zs us : List Nat} (r d s : Nat) (hr1 : FRow w lo w.heap.size S1 zs) (hr2 : FRow w lo w.heap.size S2 us) (ap : ∀ k, S1.ownBlock = some k → S2.ownBlock ≠ some k)
    (hl : w0.heap.size ≤ lo) (hlo : lo ≤ w.heap.size) (hg : Grew w0 w) :
    MixAt w0 (w.alloc (.cells #[S1, S2, .float .f32 r, .float .f32 d, .float .f32 s] 25)) lo w.heap.size S1 S2 zs us (zs.map (cl .f32)) (us.map (cl .f32)) ∧
      FmBox (w.alloc (.cells #[S1, S2, .float .f32 r, .float .f32 d, .float .f32 s] 25)) w.heap.size r d s :=
  ⟨{ r1 := RowAt.mono (hr1.alloc _) (Nat.le_refl _) (by simp), r2 := RowAt.mono (hr2.alloc _) (Nat.le_refl _) (by simp), ap := ap
     n1 := fun e => absurd (hr1.2 _ e) (Nat.lt_irrefl _), n2 := fun e => absurd (hr2.2 _ e) (Nat.lt_irrefl _), c0 := by simp, c1 := by simp, f0 := by simp [go_sem], f1 := by simp [go_sem], d1 := rfl, d2 := rfl
     gr := grew_al hg _, hb := by omega, hl := hl, ll := by simp; omega, lt := by simp }, by refine ⟨?_, ?_, ?_⟩ <;> simp⟩

/-- A box, its row turned by an append, stays else as it was. -/
theorem mix_same {w0 wr wq w2 : World} {lo b : Nat} {v1 v2 v : Value} {zs us : List Nat} {D E : List Ieee.Datum} (h : MixAt w0 wr lo b v1 v2 zs us D E) (hq : Grew wr wq) (hgr : wq.grownBy w2 v.ownBlock) (hv : v = v1 ∨ v = v2) : w2.heap[b]? = wr.heap[b]? := by
  have hlt := h.lt
  have hs := Below.size hq
  refine (hgr.block b (by omega) fun e => ?_).trans (hq.block b hlt)
  rcases hv with rfl | rfl
  · exact h.n1 e.symm
  · exact h.n2 e.symm

/-- No farm. -/
def ZFM : Value := .agg #[.slice none 0 0, .slice none 0 0, .float .f32 0, .float .f32 0, .float .f32 0]

theorem farm_nil (w : World) (lo hi : Nat) : FarmAt w lo hi ZFM [] [] 0 0 0 := ⟨_, _, rfl, rowAt_nil _ _ _, rowAt_nil _ _ _, fun k h => by simp [Value.ownBlock] at h⟩

/-- A result's box, no farm in it yet. -/
def BoxF (w : World) (b : Nat) : Prop := FmAt w b (.slice none 0 0) (.slice none 0 0) 0 0 0 ∧ ∀ o, w.frozen? ⟨b, o, none⟩ = false

theorem BoxF.grew {w w' : World} {b : Nat} (h : BoxF w b) (hb : b < w.heap.size) (hg : Grew w w') : BoxF w' b :=
  ⟨h.1.grew hb hg, fun o => ((bcell hg).2 _ _ hb).trans (h.2 o)⟩

def st5 (w : World) (b : Nat) (X Y : Value) (r d s : Nat) : World :=
  ((((w.setCell ⟨b, 0, none⟩ X).setCell ⟨b, 1, none⟩ Y).setCell ⟨b, 2, none⟩ (.float .f32 r)).setCell ⟨b, 3, none⟩ (.float .f32 d)).setCell ⟨b, 4, none⟩ (.float .f32 s)

theorem st5_at {w : World} {b : Nat} {X0 Y0 : Value} {r0 d0 s0 : Nat} (h : FmAt w b X0 Y0 r0 d0 s0) (X Y : Value) (r d s : Nat) : FmAt (st5 w b X Y r d s) b X Y r d s := by
  obtain ⟨h0, h1, h2, h3, h4⟩ := h
  unfold st5 FmAt
  have n : ∀ (w : World) (i j : Nat) (v : Value), i ≠ j → (w.setCell ⟨b, i, none⟩ v).cell? ⟨b, j, none⟩ = w.cell? ⟨b, j, none⟩ := fun w i j v hij => cell_set_other w b i j v hij
  refine ⟨?_, ?_, ?_, ?_, ?_⟩
  · rw [n _ 4 0 _ (by omega), n _ 3 0 _ (by omega), n _ 2 0 _ (by omega), n _ 1 0 _ (by omega)]; exact cell_set_own _ _ _ _ _ h0
  · rw [n _ 4 1 _ (by omega), n _ 3 1 _ (by omega), n _ 2 1 _ (by omega)]; exact cell_set_own _ _ _ _ _ ((n _ 0 1 _ (by omega)).trans h1)
  · rw [n _ 4 2 _ (by omega), n _ 3 2 _ (by omega)]; exact cell_set_own _ _ _ _ _ ((n _ 1 2 _ (by omega)).trans ((n _ 0 2 _ (by omega)).trans h2))
  · rw [n _ 4 3 _ (by omega)]; exact cell_set_own _ _ _ _ _ ((n _ 2 3 _ (by omega)).trans ((n _ 1 3 _ (by omega)).trans ((n _ 0 3 _ (by omega)).trans h3)))
  · exact cell_set_own _ _ _ _ _ ((n _ 3 4 _ (by omega)).trans ((n _ 2 4 _ (by omega)).trans ((n _ 1 4 _ (by omega)).trans ((n _ 0 4 _ (by omega)).trans h4))))

theorem st5_wrote (w : World) (b : Nat) (X Y : Value) (r d s : Nat) : Wrote b (b + 1) w (st5 w b X Y r d s) :=
  (Wrote.of_outside (outside_set _ _ _ _)).trans ((Wrote.of_outside (outside_set _ _ _ _)).trans ((Wrote.of_outside (outside_set _ _ _ _)).trans ((Wrote.of_outside (outside_set _ _ _ _)).trans (Wrote.of_outside (outside_set _ _ _ _)))))

/-- What a farm is given back as: itself where it is valid, else none. -/
def RetGF (v : Value) (ok : Bool) (w : World) (e : Ending) (w' : World) : Prop := e = .returned (.tuple #[if ok then v else ZFM, .bool ok]) ∧ Grew w w'

set_option maxHeartbeats 1000000 in
theorem c_checkedFarm (lo hi : Nat) (v : Value) (xs ys : List Nat) (r d s : Nat) (w : World) (h : FarmAt w lo hi v xs ys r d s) (hs : hi ≤ w.heap.size) :
    Calls Try.prog 43 #[v] w (RetGF v (vFarm xs ys r d s) w) := by
  have HV := Lib.hid (fun w' (hg : Grew w w') => c_implValidFarm' lo hi v xs ys r d s w' (h.grew hs hg) (Nat.le_trans hs (Below.size hg)))
  obtain ⟨A, c, C, c', rfl, hx, hy⟩ := h.parts
  clear h hx hy
  generalize vFarm xs ys r d s = B at HV
  cases B
  all_goals
    go_enter Try.func43, Try.ntmps43
    go_wp2_with fail
    refine (HV.out _ (by (show Below _ _ _; (repeat (first | exact Below.refl _ _ | refine ext_below ?_ (by first | omega | (simp only [size_ext, heap_push, Array.size_push, World.heap_drewN]; omega) | (simp; omega)) _ _ | refine below_draws ?_ _ | refine Below.alloc ?_ (by first | omega | (simp; done) | (simp; omega)) _ | refine Below.setCell ?_ (by first | omega | (simp; done) | (simp; omega)) _ | refine below_then (by assumption) (by first | omega | (simp; done) | (simp; omega)) ?_))))).mono ?_
    rintro e w1 ⟨rfl, hg1⟩
    have G1 := Lib.hid (grew_trans (show Grew w _ by (show Below _ _ _; (repeat (first | exact Below.refl _ _ | refine ext_below ?_ (by first | omega | (simp only [size_ext, heap_push, Array.size_push, World.heap_drewN]; omega) | (simp; omega)) _ _ | refine below_draws ?_ _ | refine Below.alloc ?_ (by first | omega | (simp; done) | (simp; omega)) _ | refine Below.setCell ?_ (by first | omega | (simp; done) | (simp; omega)) _ | refine below_then (by assumption) (by first | omega | (simp; done) | (simp; omega)) ?_)))) hg1)
    obtain ⟨hbc, hbf⟩ := bcell hg1
    have hsz := Below.size hg1
    simp at hsz
    have s1 : w.heap.size < w1.heap.size := by omega
    have s2 : w.heap.size + 1 < w1.heap.size := by omega
    clear hg1
    go_wp2_with fail
  · exact bodyPost_ret (v := .tuple #[ZFM, .bool false]) (by simp [results, Try.results43, go_sem, hbc, s1, s2, ZFM]) rfl ⟨rfl, Outside.below (lo := w.heap.size) (hi := w.heap.size + 1 + 1) G1.out (by repeat (first | (with_reducible exact Outside.refl _ _ _) | (with_reducible refine Outside.trans ?_ (Outside.mono (outside_set _ _ _ _) ?_ ?_); rotate_left; omega; omega))) (Nat.le_refl _)⟩
  · exact bodyPost_ret (v := .tuple #[.agg #[.slice A xs.length c, .slice C ys.length c', .float .f32 r, .float .f32 d, .float .f32 s], .bool true]) (by simp [results, Try.results43, go_sem, hbc, s1, s2]) rfl ⟨rfl, Outside.below (lo := w.heap.size) (hi := w.heap.size + 1 + 1) G1.out (by repeat (first | (with_reducible exact Outside.refl _ _ _) | (with_reducible refine Outside.trans ?_ (Outside.mono (outside_set _ _ _ _) ?_ ?_); rotate_left; omega; omega))) (Nat.le_refl _)⟩

set_option maxHeartbeats 1000000 in
theorem c_l06Give (lo hi : Nat) (v : Value) (xs ys : List Nat) (r d s : Nat) (w : World) (h : FarmAt w lo hi v xs ys r d s) (hs : hi ≤ w.heap.size) (hn : xs.length ≤ 1048576) (hm : ys.length ≤ 1048576) :
    Calls Try.prog 40 #[v] w (RetGF v (vFarm xs ys r d s) w) := by
  obtain ⟨A, c, C, c', rfl, hx, hy⟩ := h.parts
  have HV := Lib.hid (fun w' b hf h => c_l06Is b A C _ c _ c' hi xs ys r d s w' hf (Slc.grew (g := Value.float .f32) (w' := w') hx hs h) (Slc.grew (g := Value.float .f32) (w' := w') hy hs h) (by unfold maxLen; omega) (by unfold maxLen; omega))
  clear h hx hy
  generalize vFarm xs ys r d s = B at HV
  cases B
  all_goals
    go_enter Try.func40, Try.ntmps40
    go_wp2_with fail
    refine (HV.out _ _ (by unfold FmAt; simp) (by (show Below _ _ _; (repeat (first | exact Below.refl _ _ | refine ext_below ?_ (by first | omega | (simp only [size_ext, heap_push, Array.size_push, World.heap_drewN]; omega) | (simp; omega)) _ _ | refine below_draws ?_ _ | refine Below.alloc ?_ (by first | omega | (simp; done) | (simp; omega)) _ | refine Below.setCell ?_ (by first | omega | (simp; done) | (simp; omega)) _ | refine below_then (by assumption) (by first | omega | (simp; done) | (simp; omega)) ?_))))).mono ?_
    rintro e w1 ⟨rfl, nq, rfl⟩
    go_wp2_with fail
  · exact bodyPost_ret (v := .tuple #[ZFM, .bool false]) (by simp [results, Try.results40, go_sem, ZFM]) rfl ⟨rfl, by (show Below _ _ _; (repeat (first | exact Below.refl _ _ | refine ext_below ?_ (by first | omega | (simp only [size_ext, heap_push, Array.size_push, World.heap_drewN]; omega) | (simp; omega)) _ _ | refine below_draws ?_ _ | refine Below.alloc ?_ (by first | omega | (simp; done) | (simp; omega)) _ | refine Below.setCell ?_ (by first | omega | (simp; done) | (simp; omega)) _ | refine below_then (by assumption) (by first | omega | (simp; done) | (simp; omega)) ?_)))⟩
  · exact bodyPost_ret (v := .tuple #[.agg #[.slice A xs.length c, .slice C ys.length c', .float .f32 r, .float .f32 d, .float .f32 s], .bool true]) (by simp [results, Try.results40, go_sem]) rfl ⟨rfl, by (show Below _ _ _; (repeat (first | exact Below.refl _ _ | refine ext_below ?_ (by first | omega | (simp only [size_ext, heap_push, Array.size_push, World.heap_drewN]; omega) | (simp; omega)) _ _ | refine below_draws ?_ _ | refine Below.alloc ?_ (by first | omega | (simp; done) | (simp; omega)) _ | refine Below.setCell ?_ (by first | omega | (simp; done) | (simp; omega)) _ | refine below_then (by assumption) (by first | omega | (simp; done) | (simp; omega)) ?_)))⟩

/-- What is told where all is well; else nothing. -/
def yesL {α : Type} (b : Bool) (l : List α) : List α := if b then l else []
def yesN (b : Bool) (n : Nat) : Nat := if b then n else 0

/-- A coordinate's datum. -/
def nearD (x : Ieee.Datum) : Bool := fromTo x (cl .f32 3351465984) (cl .f32 1203982336)

def vFarmD (D E : List Ieee.Datum) (r d s : Nat) : Bool :=
  decide (1 ≤ D.length) && decide (D.length ≤ 12) && decide (E.length = D.length) && above (cl .f32 r) && above (cl .f32 s) && !flt (cl .f32 1148846080) (cl .f32 r) && fromTo (cl .f32 d) (cl .f32 0) (cl .f32 1056964608) && D.all nearD && E.all nearD

theorem vFarm_D (xs ys : List Nat) (r d s : Nat) : vFarm xs ys r d s = vFarmD (xs.map (cl .f32)) (ys.map (cl .f32)) r d s := by
  unfold vFarm vFarmD
  simp only [List.length_map, List.all_map]
  rfl

end Go.Proofs.Ytlakmogclcpgdaa

