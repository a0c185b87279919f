/-
  CONTRACTS: a run of yaws, whose places fit.
-/
import Derived.Test.YtkippcjifikegaaYawsP
namespace Go.Proofs.Ytkippcjifikegaa
open Go.RowKit Go.Flt
set_option linter.unusedVariables false
set_option maxRecDepth 100000
set_option linter.unusedSimpArgs false

/-- A row of floats that fit, whose data are told, and a bool. -/
def RetLBF (ds : List Ieee.Datum) (b : Bool) (w : World) (e : Ending) (w' : World) : Prop :=
  ∃ v zs, e = .returned (.tuple #[v, .bool b]) ∧ FRow w' w.heap.size w'.heap.size v zs ∧ (∀ x ∈ zs, fits x) ∧ zs.map (cl .f32) = ds ∧ Grew w w'

set_option maxHeartbeats 2000000 in
theorem c_implRunYawF (y : Nat) (A : Option Addr) (n cap K : Nat) (xs : List Nat) (q m : Nat) (w : World) (h : Fl w K A n xs) (hK : K ≤ w.heap.size) (fy : fits y) :
    Calls Try.prog 11 #[.float .f32 y, .slice A n cap, .float .f32 q, .float .f32 m] w (RetLBF (runY y xs q m) (okY y xs q m) w) := by
  have HB : ∀ w cap b, Fl w (b + 1) (some ⟨b, 0, none⟩) 2 [q, m] → Calls Try.prog 33 #[.slice (some ⟨b, 0, none⟩) 2 cap] w fun e w' => e = .returned (.bool (least (cl .f32 q) && least (cl .f32 m))) ∧ ∃ n, w' = w.drewN n := by
    intro w cap b h
    have := c_impl.areLeast _ 2 cap _ _ w h (by simp [maxLen])
    simpa only [List.all_cons, List.all_nil, Bool.and_true] using this
  have HB := Lib.hid HB
  obtain rfl := h.1
  have HS := Lib.hid h
  clear h
  cases g1 : fin (cl .f32 y)
  · have hk : okY y xs q m = false := by simp [okY, g1]
    rw [runY, hk]
    go_enter Try.func11, Try.ntmps11
    go_wp2_with (go_at_call 38; refine (c_IsFinite _ _).mono ?_; rintro e w' ⟨rfl, nq, rfl⟩)
    go_ret2
    exact ⟨_, [], rfl, rowAt_nil _ _ _, fun _ h => (by cases h), rfl, by (show Below _ _ _; (repeat (first | exact Below.refl _ _ | refine ext_below ?_ (by first | omega | (simp only [size_ext, heap_push, Array.size_push, World.heap_drewN]; omega) | (simp; omega)) _ _ | refine below_draws ?_ _ | refine Below.alloc ?_ (by first | omega | (simp; done) | (simp; omega)) _ | refine Below.setCell ?_ (by first | omega | (simp; done) | (simp; omega)) _ | refine below_then (by assumption) (by first | omega | (simp; done) | (simp; omega)) ?_)))⟩
  cases g2 : decide ((128 : Int) < (xs.length : Int))
  case true =>
    have hk : okY y xs q m = false := by
      have : ¬ xs.length ≤ 128 := by have := of_decide_eq_true g2; omega
      simp [okY, this]
    rw [runY, hk]
    go_enter Try.func11, Try.ntmps11
    go_wp2_with (go_at_call 38; refine (c_IsFinite _ _).mono ?_; rintro e w' ⟨rfl, nq, rfl⟩)
    go_ret2
    exact ⟨_, [], rfl, rowAt_nil _ _ _, fun _ h => (by cases h), rfl, by (show Below _ _ _; (repeat (first | exact Below.refl _ _ | refine ext_below ?_ (by first | omega | (simp only [size_ext, heap_push, Array.size_push, World.heap_drewN]; omega) | (simp; omega)) _ _ | refine below_draws ?_ _ | refine Below.alloc ?_ (by first | omega | (simp; done) | (simp; omega)) _ | refine Below.setCell ?_ (by first | omega | (simp; done) | (simp; omega)) _ | refine below_then (by assumption) (by first | omega | (simp; done) | (simp; omega)) ?_)))⟩
  have hl : xs.length ≤ 128 := by have := of_decide_eq_false g2; omega
  cases g3 : (least (cl .f32 q) && least (cl .f32 m))
  · have hk : okY y xs q m = false := by
      unfold okY
      rw [Bool.and_eq_false_iff] at g3
      rcases g3 with g | g <;> simp [g]
    rw [runY, hk]
    go_enter Try.func11, Try.ntmps11
    go_wp2_with (first | (go_at_call 38; refine (c_IsFinite _ _).mono ?_; rintro e w' ⟨rfl, nq, rfl⟩) | (go_at_call 33; refine (HB.out _ _ _ (fl_new _ [q, m] _ _ _ (by simp) rfl)).mono ?_; rintro e w' ⟨rfl, nq, rfl⟩))
    go_ret2
    exact ⟨_, [], rfl, rowAt_nil _ _ _, fun _ h => (by cases h), rfl, by (show Below _ _ _; (repeat (first | exact Below.refl _ _ | refine ext_below ?_ (by first | omega | (simp only [size_ext, heap_push, Array.size_push, World.heap_drewN]; omega) | (simp; omega)) _ _ | refine below_draws ?_ _ | refine Below.alloc ?_ (by first | omega | (simp; done) | (simp; omega)) _ | refine Below.setCell ?_ (by first | omega | (simp; done) | (simp; omega)) _ | refine below_then (by assumption) (by first | omega | (simp; done) | (simp; omega)) ?_)))⟩
  have hql : least (cl .f32 q) = true ∧ least (cl .f32 m) = true := by simpa using g3
  have HQ := Lib.hid hql.1
  have HM := Lib.hid hql.2
  have HY := Lib.hid g1
  clear hql
  obtain ⟨i, hi, hz0, hz1, hz2⟩ := info_parts info_float32
  have HI := Lib.hid hi
  have HI0 := Lib.hid hz0
  have HI1 := Lib.hid hz1
  have HI2 := Lib.hid hz2
  clear hi hz0 hz1 hz2
  go_enter Try.func11, Try.ntmps11
  go_wp2_with (first | (go_at_call 38; refine (c_IsFinite _ _).mono ?_; rintro e w' ⟨rfl, nq, rfl⟩) | (go_at_call 33; refine (HB.out _ _ _ (fl_new _ [q, m] _ _ _ (by simp) rfl)).mono ?_; rintro e w' ⟨rfl, nq, rfl⟩))
  clear g1 g3
  rename_i nq1 _ _
  have h0 : FRow ((((w.drewN nq1).alloc (Obj.cells #[Value.float FloatKind.f32 q, Value.float FloatKind.f32 m] 24)).drewN nq).alloc (Obj.cells #[] 24)) w.heap.size (w.heap.size + 2) (.slice (some ⟨w.heap.size + 1, 0, none⟩) 0 0) [] := by
    have := World.ownsRow_made (base := w.heap.size) (e := 24) (size := 1) (((w.drewN nq1).alloc (Obj.cells #[Value.float FloatKind.f32 q, Value.float FloatKind.f32 m] 24)).drewN nq) #[] 0 (by simp) (by simp) (by simp)
    refine ⟨by simpa using this, fun k hk => ?_⟩
    simp only [Value.ownBlock, Option.some.injEq] at hk
    omega
  have g0 : Grew w ((((w.drewN nq1).alloc (Obj.cells #[Value.float FloatKind.f32 q, Value.float FloatKind.f32 m] 24)).drewN nq).alloc (Obj.cells #[] 24)) := by (show Below _ _ _; (repeat (first | exact Below.refl _ _ | refine ext_below ?_ (by first | omega | (simp only [size_ext, heap_push, Array.size_push, World.heap_drewN]; omega) | (simp; omega)) _ _ | refine below_draws ?_ _ | refine Below.alloc ?_ (by first | omega | (simp; done) | (simp; omega)) _ | refine Below.setCell ?_ (by first | omega | (simp; done) | (simp; omega)) _ | refine below_then (by assumption) (by first | omega | (simp; done) | (simp; omega)) ?_)))
  have H0 := Lib.hid h0
  have G0 := Lib.hid g0
  clear h0 g0 HB
  go_loopw [0, 10, 33] (fun y' v i wr => ∃ (k : Nat) (zs : List Nat) (z : Nat), k ≤ xs.length ∧ i = .int .i64 k ∧ y' = .float .f32 z ∧ Hid (fits z) ∧ Hid (cl .f32 z = yk (cl .f32 q) (cl .f32 m) xs (cl .f32 y) k) ∧ Hid (fin (cl .f32 z) = true) ∧
      Hid (∀ j, j < k → okK (cl .f32 q) (cl .f32 m) xs (cl .f32 y) j = true) ∧ Hid (zs.length = k) ∧ Hid (∀ x ∈ zs, fits x) ∧ Hid (FRow wr w.heap.size wr.heap.size v zs) ∧ Hid (zs.map (cl .f32) = (List.range k).map fun j => yk (cl .f32 q) (cl .f32 m) xs (cl .f32 y) (j + 1)) ∧ Hid (Grew w wr))
    (fun _ _ i _ => xs.length - (intOf i).toNat)
  case atStart => exact ⟨0, [], y, Nat.zero_le _, rfl, rfl, fy, rfl, HY, fun j h => absurd h (by omega), rfl, fun _ h => (by cases h), RowAt.mono H0.out (Nat.le_refl _) (by simp), rfl, G0⟩
  case round =>
    obtain ⟨k, zs, z, hk, rfl, rfl, hzf, hz, hfin, hall, hzl, hfz, hrow, hmap, hg⟩ := hrel
    by_cases hlt : k < xs.length
    · obtain ⟨b, off, rfl, hbK, hc⟩ := HS.out.2 (by omega)
      have hcell : wr.cell? ⟨b, off + k, none⟩ = some (.float .f32 (xs.getD k 0)) := ((bcell hg.out).1 b (off + k) (by omega)).trans (hc k (xs.getD k 0) (by simp [hlt]))
      clear hc
      have i3 : (0 : Int) ≤ (k : Int) := by omega
      have i4 : (k : Int) < (xs.length : Int) := by omega
      have hst := Lib.hid (fun w => c_implStep z (xs.getD k 0) q m w hzf.out hfin.out HQ.out HM.out)
      have hK := Lib.hid (show okK (cl .f32 q) (cl .f32 m) xs (cl .f32 y) k = okS (cl .f32 z) (cl .f32 (xs.getD k 0)) (cl .f32 q) (cl .f32 m) by unfold okK; rw [← hz.out])
      have hN := Lib.hid (show yk (cl .f32 q) (cl .f32 m) xs (cl .f32 y) (k + 1) = nxt (cl .f32 z) (cl .f32 (xs.getD k 0)) (cl .f32 q) (cl .f32 m) by rw [hz.out]; rfl)
      have hF := Lib.hid (fun h => fin_nxt (y := z) (x := cl .f32 (xs.getD k 0)) (q := cl .f32 q) (m := cl .f32 m) h)
      generalize xs.getD k 0 = x at *
      cases hok : okS (cl .f32 z) (cl .f32 x) (cl .f32 q) (cl .f32 m)
      · have HV := Lib.hid (okY_no (y := y) (q := q) (m := m) hlt (hK.out.trans hok))
        go_wp2_with (go_at_call 8; refine (hst.out _).mono ?_; rintro e w' ⟨r, rfl, hr, hrf, hgw⟩)
        go_ret2
        exact ⟨_, [], by rw [HV.out.1]; rfl, rowAt_nil _ _ _, fun _ h => (by cases h), by rw [HV.out.2]; rfl, grew_trans hg.out hgw⟩
      · have HOK := Lib.hid hok
        go_wp2_with (first | (at_builtin; refine wpList_append_own _ rfl _ _ 31 rfl w.heap.size 24 i (.float .f32 0) 1 4 Try.underlying31 HI.out HI0.out HI1.out HI2.out rfl (by decide) _ _ _ rfl ((hrow.out.grew (Nat.le_refl _) hgw).1.alloc _) ⟨_, 0, none⟩ 1 _ [.float .f32 r] rfl rfl (cell_one_new _ _ _) (by simp [Value.oneCell']) (by have := hzl.out; unfold maxLen; omega) (by have := hzl.out; omega) (by have h1 := Below.size hg.out; have h2 := Below.size hgw; simp; omega) ?_; rintro v' w2 hown hgr _; have hrp := Lib.hid (row_push hg.out hrow.out hgw hown hgr); clear hown hgr) | (go_at_call 8; refine (hst.out _).mono ?_; rintro e w' ⟨r, rfl, hr, hrf, hgw⟩))
        go_roundw
        case rel => exact ⟨k + 1, zs ++ [r], r, by omega, by go_num, rfl, hrf, (hr HOK.out).trans hN.out.symm, by show fin (cl .f32 r) = true; rw [hr HOK.out]; exact hF.out HOK.out, fun j hj => (by
          rcases Nat.lt_or_ge j k with h | h
          · exact hall.out j h
          · obtain rfl : j = k := by omega
            rw [hK.out]
            exact HOK.out), by show (zs ++ [r]).length = k + 1; simp [hzl.out], (fun u hu => by
            rcases List.mem_append.1 hu with h | h
            · exact hfz.out u h
            · rw [List.mem_singleton.1 h]; exact hrf), hrp.out.1, by
            show (zs ++ [r]).map (cl .f32) = _
            rw [List.map_append, hmap.out, List.range_succ, List.map_append]
            simp only [List.map_cons, List.map_nil]
            rw [hr HOK.out, hN.out], hrp.out.2⟩
        case measure => simp [intOf]; omega
    · have hkk : okY y xs q m = true := by
        simp only [okY, HY.out, HQ.out, HM.out, hl, Bool.true_and, decide_true, List.all_eq_true]
        exact fun j hj => hall.out j (by have := List.mem_range.1 hj; omega)
      obtain rfl : k = xs.length := by omega
      have HV := Lib.hid (show runY y xs q m = _ by rw [runY, if_pos hkk])
      have HO := Lib.hid hkk
      clear hkk
      go_wp2_with fail
      go_ret2
      exact ⟨_, zs, by rw [HO.out]; rfl, hrow.out, hfz.out, by rw [HV.out]; exact hmap.out, hg.out⟩

end Go.Proofs.Ytkippcjifikegaa
