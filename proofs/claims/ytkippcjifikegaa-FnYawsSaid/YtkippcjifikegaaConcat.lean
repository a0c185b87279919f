/-
  CONTRACTS: two rows laid one behind the other (slices.Concat of two).
-/
import Derived.Lib.AppendZeros
import Derived.Test.YtkippcjifikegaaOwn2
namespace Go.Proofs.Ytkippcjifikegaa
open Go.RowKit Go.Flt
set_option linter.unusedVariables false
set_option maxRecDepth 100000
set_option linter.unusedSimpArgs false

theorem grown_row {w : World} {n : Nat} (h0 : 0 < n) (hm : n ≤ maxLen) (e : TypeId) (z : Value) (hz : z.cells.size = 1) :
    RowAt (Value.float .f32) e (w.drew.alloc (.cells (Builtin.zeroCells z.cells n ++ Builtin.zeroCells z.cells (grownCap w n 0 e - n)) e)) w.heap.size (w.heap.size + 1) (.slice (some ⟨w.heap.size, 0, none⟩) 0 (grownCap w n 0 e)) [] := by
  have hge := grownCap_ge w n 0 e
  have hcm : grownCap w n 0 e ≤ maxLen := grownCap_le_maxLen w n 0 e hm
  refine ⟨World.ownsRow_made (base := w.heap.size) (e := e) (size := 1) w.drew _ _ (Nat.le_refl _) hcm ?_, fun k hk => ?_⟩
  · simp only [Array.size_append, size_zeroCells, hz]
    omega
  · simp only [Value.ownBlock, Option.some.injEq] at hk
    omega

theorem c_Grow (n : Nat) (k : Int) (w : World) (hk : k = n) (h0 : 0 < n) (hn : n ≤ 1048576) :
    Calls Try.prog 87 #[.slice none 0 0, .int .i64 k] w fun e w' => ∃ v, e = .returned v ∧ FRow w' w.heap.size w'.heap.size v [] ∧ Grew w w' := by
  subst hk
  obtain ⟨i, hi, hz0, hz1, hz2⟩ := info_parts info_float32
  have hr := Lib.hid (fun w => Lib.run_append_nil_zeros (P := Try.prog) w 31 3 31 24 i (.float .f32 0) .i64 .i64 Try.underlying31 Try.underlying3 hi hz0 n h0 (by omega) (by omega) (by rw [hz2]; omega))
  have hrow := Lib.hid (fun w => grown_row (w := w) h0 (by unfold maxLen; omega) 24 (.float .f32 0) rfl)
  clear hi hz0 hz1 hz2
  have d1 : decide ((n : Int) < 0) = false := by simp
  have d2 : decide ((0 : Int) < (n : Int)) = true := by simp; omega
  go_enter Try.func87, Try.ntmps87
  go_wp2_with (at_builtin; refine Lib.wpList_append_run _ rfl _ _ 31 3 rfl _ _ rfl rfl _ _ (hr.out _) ?_)
  go_ret
  exact ⟨_, rfl, RowAt.mono (RowAt.keep (hrow.out w) (fun k _ _ => rfl)) (Nat.le_refl _) (by simp), by (show Below _ _ _; (repeat (first | exact Below.refl _ _ | refine ext_below ?_ (by first | omega | (simp only [size_ext, heap_push, Array.size_push, World.heap_drewN]; omega) | (simp; omega)) _ _ | refine below_draws ?_ _ | refine Below.alloc ?_ (by first | omega | (simp; done) | (simp; omega)) _ | refine Below.setCell ?_ (by first | omega | (simp; done) | (simp; omega)) _ | refine below_then (by assumption) (by first | omega | (simp; done) | (simp; omega)) ?_)))⟩

/-- Rows of two appends. -/
theorem fl_cells {w : World} {K n : Nat} {b off : Nat} {xs : List Nat} (h : Fl w K (some ⟨b, off, none⟩) n xs) : ∀ j u, (xs.map (Value.float .f32))[j]? = some u → w.cell? ((⟨b, off, none⟩ : Addr).add j) = some u := by
  intro j u hj
  rw [List.getElem?_map, Option.map_eq_some_iff] at hj
  obtain ⟨x, hx, rfl⟩ := hj
  have hn : 0 < n := by have := h.1; have := (List.getElem?_eq_some_iff.1 hx).1; omega
  obtain ⟨b', off', e, _, hc⟩ := h.2 hn
  simp only [Option.some.injEq, Addr.mk.injEq, and_true] at e
  obtain ⟨rfl, rfl⟩ := e
  rw [Addr.add_lit]
  exact hc j x hx

theorem one_cells (xs : List Nat) : ∀ u ∈ xs.map (Value.float .f32), u.oneCell' = true := by
  intro u hu
  obtain ⟨x, _, rfl⟩ := List.mem_map.1 hu
  rfl

/-- What an 'append' of many values leaves. -/
theorem row_app {w0 w w2 : World} {v v' : Value} {xs ys : List Nat} {t : TypeId} (hg0 : Grew w0 w) (hrow : RowAt (Value.float .f32) t w w0.heap.size w.heap.size v xs) (hown : w2.ownsRow w0.heap.size t 1 v' (xs.length + ys.length) (xs.map (Value.float .f32) ++ ys.map (Value.float .f32)))
    (hgr : w.grownBy w2 v.ownBlock) : RowAt (Value.float .f32) t w2 w0.heap.size w2.heap.size v' (xs ++ ys) ∧ Grew w0 w2 := by
  refine ⟨⟨by simpa using hown, fun k hk => (hown.lt k hk).2⟩, hgr.os.trans hg0.os, hgr.tape.trans hg0.tape, hgr.output.trans hg0.output, ?_, fun k hk => ?_⟩
  · have a := hgr.size
    have b := Below.size hg0
    omega
  · have b := Below.size hg0
    rw [hgr.block k (by omega) (fun e => by have := (hrow.1.lt k e.symm).1; omega)]
    exact hg0.block k hk

set_option maxHeartbeats 1000000 in
theorem c_Concat (b cap : Nat) (A A' : Option Addr) (n c n' c' K : Nat) (xs ys : List Nat) (w : World) (hb : w.cell? ⟨b, 0, none⟩ = some (.slice A n c)) (hb' : w.cell? ⟨b, 1, none⟩ = some (.slice A' n' c')) (hbw : b < w.heap.size)
    (hx : Fl w K A n xs) (hy : Fl w K A' n' ys) (hK : K ≤ w.heap.size) (h1 : 0 < xs.length) (h2 : 0 < ys.length) (h3 : xs.length ≤ 1024) (h4 : ys.length ≤ 1024) :
    Calls Try.prog 75 #[.slice (some ⟨b, 0, none⟩) 2 cap] w fun e w' => ∃ v, e = .returned v ∧ FRow w' w.heap.size w'.heap.size v (xs ++ ys) ∧ Grew w w' := by
  obtain rfl := hx.1
  obtain rfl := hy.1
  have HX := Lib.hid hx
  have HY := Lib.hid hy
  clear hx hy
  obtain ⟨i, hi, hz0, hz1, hz2⟩ := info_parts info_float32
  have HI := Lib.hid hi
  have HI0 := Lib.hid hz0
  have HI1 := Lib.hid hz1
  have HI2 := Lib.hid hz2
  clear hi hz0 hz1 hz2
  have d1 : decide ((xs.length : Int) < 0) = false := by simp
  have d2 : decide ((xs.length : Int) + (ys.length : Int) < 0) = false := by simp; omega
  obtain ⟨bx, ox, rfl, hbx, _⟩ := HX.out.2 h1
  obtain ⟨by', oy, rfl, hby, _⟩ := HY.out.2 h2
  go_enter Try.func75, Try.ntmps75
  go_wp2_with fail
  refine wp_loop_rounds 3 ?_
  rw [rounds_succ]
  go_wp2_with fail
  rw [rounds_succ]
  go_wp2_with fail
  rw [rounds_succ]
  go_wp2_with fail
  refine (c_Grow (xs.length + ys.length) _ w (by simp) (by omega) (by omega)).mono ?_
  rintro e w1 ⟨v1, rfl, hr1, hg1⟩
  have R1 := Lib.hid hr1
  have G1 := Lib.hid hg1
  have k1 := ((bcell hg1).1 b 0 hbw).trans hb
  have k2 := ((bcell hg1).1 b 1 hbw).trans hb'
  have X1 := Lib.hid (fl_cells (Slc.grew (g := Value.float .f32) HX.out hK hg1))
  have HB := Lib.hid hb'
  clear hr1 hg1 hb hb' k2
  go_wp2_with fail
  refine wp_loop_rounds 3 ?_
  rw [rounds_succ]
  go_wp2_with (at_builtin; refine wpList_append_own _ rfl _ _ 31 rfl w.heap.size 24 i (.float .f32 0) 1 4 Try.underlying31 HI.out HI0.out HI1.out HI2.out rfl (by decide) _ 0 [] rfl R1.out.1 ⟨bx, ox, none⟩ xs.length _ (xs.map (Value.float .f32)) rfl (by simp) X1.out (one_cells _) (by unfold maxLen; omega) (by omega) (Below.size G1.out) ?_; rintro v2 w2 hown hgr _; have hra := Lib.hid (row_app G1.out R1.out hown hgr); clear hown hgr)
  clear k1
  have k2 := ((bcell hra.out.2).1 b 1 hbw).trans HB.out
  have Y2 := Lib.hid (fl_cells (Slc.grew (g := Value.float .f32) HY.out hK hra.out.2))
  have R2 : Hid (FRow w2 w.heap.size w2.heap.size v2 xs) := hra.out.1
  have G2 := Lib.hid hra.out.2
  clear hra X1 R1 G1
  rw [rounds_succ]
  go_wp2_with (at_builtin; refine wpList_append_own _ rfl _ _ 31 rfl w.heap.size 24 i (.float .f32 0) 1 4 Try.underlying31 HI.out HI0.out HI1.out HI2.out rfl (by decide) _ xs.length _ rfl R2.out.1 ⟨by', oy, none⟩ ys.length _ (ys.map (Value.float .f32)) rfl (by simp) Y2.out (one_cells _) (by unfold maxLen; omega) (by omega) (Below.size G2.out) ?_; rintro v3 w3 hown hgr _; have hra := Lib.hid (row_app G2.out R2.out hown hgr); clear hown hgr)
  clear k2 Y2 R2 G2
  rw [rounds_succ]
  go_wp2_with fail
  go_ret
  exact ⟨_, rfl, by simpa using hra.out.1, hra.out.2⟩

end Go.Proofs.Ytkippcjifikegaa
