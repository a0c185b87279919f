/-
  CONTRACTS: winds made smooth.
-/
import Derived.Test.YtebhefbpkcpnjaaGustS
namespace Go.Proofs.Ytebhefbpkcpnjaa
open Go.RowKit Go.Flt
set_option linter.unusedVariables false
set_option maxRecDepth 100000
set_option linter.unusedSimpArgs false

/-- The mean of m winds from place i on. -/
def smD (xs : List Nat) (m i : Nat) : Ieee.Datum := meanD ((xs.drop i).take m)

def smN (xs : List Nat) (m : Nat) : Nat := xs.length - m + 1

def smOk (xs : List Nat) (m : Nat) : Bool := (List.range (smN xs m)).all fun i => fin (smD xs m i)

def okSm (xs : List Nat) (q : Int) : Bool := winds xs && within q 1 xs.length && smOk xs q.toNat

def smL (xs : List Nat) (q : Int) : List Ieee.Datum := if okSm xs q then (List.range (smN xs q.toNat)).map (smD xs q.toNat) else []

/-- A slice's part. -/
theorem fl_sub {w : World} {K n : Nat} {b off : Nat} {xs : List Nat} (h : Fl w K (some ⟨b, off, none⟩) n xs) (k m : Nat) (hk : k + m ≤ n) (h0 : 0 < m) : Fl w K (some ⟨b, off + k, none⟩) m ((xs.drop k).take m) := by
  have hl := h.1
  obtain ⟨b', off', e, hb, hc⟩ := h.2 (by omega)
  simp only [Option.some.injEq, Ieee.Datum.number.injEq, Addr.mk.injEq, and_true] at e
  obtain ⟨rfl, rfl⟩ := e
  refine ⟨by simp; omega, fun _ => ⟨b, off + k, rfl, hb, fun i x hx => ?_⟩⟩
  have := hc (k + i) x (by
    rw [List.getElem?_take] at hx
    split at hx
    · rwa [List.getElem?_drop] at hx
    · cases hx)
  rwa [← Nat.add_assoc] at this

theorem c_checkedList (lo hi : Nat) (v : Value) (zs : List Nat) (w : World) (h : FRow w lo hi v zs) (hn : zs.length ≤ 1048576) :
    Calls Try.prog 86 #[v] w fun e w' => e = .returned (.tuple #[if zs.all (fun x => fin (cl .f32 x)) then v else .slice none 0 0, .bool (zs.all fun x => fin (cl .f32 x))]) ∧ ∃ n, w' = w.drewN n := by
  obtain ⟨A, c, rfl, h1⟩ := h.slc
  have HM : zs.length ≤ maxLen := by unfold maxLen; omega
  have HMX := Lib.hid HM
  have HX := Lib.hid (fun w' (hd : ∃ n, w' = w.drewN n) => c_impl.areFinite A zs.length c hi zs w' (by obtain ⟨n, rfl⟩ := hd; exact Slc.drewN (g := Value.float .f32) h1 n) HMX.out)
  clear h h1 HM
  cases hb : zs.all fun x => fin (cl .f32 x)
  all_goals
    have HB := Lib.hid hb
    go_enter Try.func86, Try.ntmps86
    go_wp2_with (go_at_call 97; refine (HX.out _ ⟨0, rfl⟩).mono ?_; rintro e w' ⟨rfl, nq, rfl⟩)
    go_ret2
    exact ⟨by simp, by (first | exact ⟨_, rfl⟩ | exact ⟨0, rfl⟩ | exact ⟨_, World.drewN_drewN _ _ _⟩ | (simp only [World.drewN_drewN]; exact ⟨_, rfl⟩))⟩

set_option maxHeartbeats 2000000 in
theorem c_implSmooth (A : Option Addr) (n cap K : Nat) (xs : List Nat) (q : Int) (w : World) (h : Fl w K A n xs) (hK : K ≤ w.heap.size) (hn : n ≤ 1048576) (hcap : n ≤ cap) (hc2 : cap ≤ 9223372036854775807) :
    Calls Try.prog 44 #[.slice A n cap, .int .i64 q] w (RetRow (Value.float .f32) 23 (cl .f32) (smL xs q) (okSm xs q) w) := by
  obtain rfl := h.1
  have HS := Lib.hid h
  clear h
  have HM : xs.length ≤ maxLen := by unfold maxLen; omega
  have HMX := Lib.hid HM
  clear HM
  cases hw : winds xs
  · have hk : okSm xs q = false := by simp [okSm, hw]
    rw [smL, hk]
    go_enter Try.func44, Try.ntmps44
    go_wp2_with (go_at_call 77; refine (c_areWinds _ _ _ K xs _ HS.out HMX.out).mono ?_; rintro e w' ⟨rfl, nq, rfl⟩)
    go_ret2
    exact ⟨_, [], rfl, rowAt_nil _ _ _, rfl, by (show Below _ _ _; (repeat (first | exact Below.refl _ _ | refine ext_below ?_ (by first | omega | (simp only [size_ext, heap_push, Array.size_push, World.heap_drewN]; omega) | (simp; omega)) _ _ | refine below_draws ?_ _ | refine Below.alloc ?_ (by first | omega | (simp; done) | (simp; omega)) _ | refine Below.setCell ?_ (by first | omega | (simp; done) | (simp; omega)) _ | refine below_then (by assumption) (by first | omega | (simp; done) | (simp; omega)) ?_)))⟩
  cases hi : within q 1 xs.length
  · have hk : okSm xs q = false := by simp [okSm, hi]
    rw [smL, hk]
    go_enter Try.func44, Try.ntmps44
    go_wp2_with (first | (go_at_call 77; refine (c_areWinds _ _ _ K xs _ HS.out HMX.out).mono ?_; rintro e w' ⟨rfl, nq, rfl⟩) | (go_at_call 73; refine (c_within _ _ _ _).mono ?_; rintro e w' ⟨rfl, nq, rfl⟩))
    go_ret2
    exact ⟨_, [], rfl, rowAt_nil _ _ _, rfl, by (show Below _ _ _; (repeat (first | exact Below.refl _ _ | refine ext_below ?_ (by first | omega | (simp only [size_ext, heap_push, Array.size_push, World.heap_drewN]; omega) | (simp; omega)) _ _ | refine below_draws ?_ _ | refine Below.alloc ?_ (by first | omega | (simp; done) | (simp; omega)) _ | refine Below.setCell ?_ (by first | omega | (simp; done) | (simp; omega)) _ | refine below_then (by assumption) (by first | omega | (simp; done) | (simp; omega)) ?_)))⟩
  have hq : ∃ m : Nat, q = (m : Int) ∧ 1 ≤ m ∧ m ≤ xs.length := by
    unfold within at hi
    simp at hi
    exact ⟨q.toNat, by omega, by omega, by omega⟩
  obtain ⟨m, rfl, hm1, hm2⟩ := hq
  have HW := Lib.hid hw
  have HWI := Lib.hid hi
  obtain ⟨i, hi', hz0, hz1, hz2⟩ := info_parts info_float32
  have HI := Lib.hid hi'
  have HI0 := Lib.hid hz0
  have HI1 := Lib.hid hz1
  have HI2 := Lib.hid hz2
  clear hi' hz0 hz1 hz2
  go_enter Try.func44, Try.ntmps44
  go_wp2_with (first | (go_at_call 77; refine (c_areWinds _ _ _ K xs _ HS.out HMX.out).mono ?_; rintro e w' ⟨rfl, nq, rfl⟩) | (go_at_call 73; refine (c_within _ _ _ _).mono ?_; rintro e w' ⟨rfl, nq, rfl⟩))
  clear hw hi
  go_loopw [6, 24] (fun v i wr => ∃ (k : Nat) (zs : List Nat), k ≤ smN xs m ∧ i = .int .i64 k ∧ Hid (zs.length = k) ∧ Hid (FRow wr w.heap.size wr.heap.size v zs) ∧ Hid (zs.map (cl .f32) = (List.range k).map (smD xs m)) ∧ Hid (Grew w wr))
    (fun _ i _ => smN xs m - (intOf i).toNat)
  case atStart => exact ⟨0, [], Nat.zero_le _, rfl, rfl, RowAt.mono (row_made _ (by (show Below _ _ _; (repeat (first | exact Below.refl _ _ | refine ext_below ?_ (by first | omega | (simp only [size_ext, heap_push, Array.size_push, World.heap_drewN]; omega) | (simp; omega)) _ _ | refine below_draws ?_ _ | refine Below.alloc ?_ (by first | omega | (simp; done) | (simp; omega)) _ | refine Below.setCell ?_ (by first | omega | (simp; done) | (simp; omega)) _ | refine below_then (by assumption) (by first | omega | (simp; done) | (simp; omega)) ?_))))).1 (Nat.le_refl _) (by simp), rfl, (row_made (g := Value.float .f32) _ (by (show Below _ _ _; (repeat (first | exact Below.refl _ _ | refine ext_below ?_ (by first | omega | (simp only [size_ext, heap_push, Array.size_push, World.heap_drewN]; omega) | (simp; omega)) _ _ | refine below_draws ?_ _ | refine Below.alloc ?_ (by first | omega | (simp; done) | (simp; omega)) _ | refine Below.setCell ?_ (by first | omega | (simp; done) | (simp; omega)) _ | refine below_then (by assumption) (by first | omega | (simp; done) | (simp; omega)) ?_))))).2⟩
  case round =>
    obtain ⟨k, zs, hk, rfl, hzl, hrow, hmap, hg⟩ := hrel
    by_cases hlt : k < smN xs m
    · have hkm : k + m ≤ xs.length := by unfold smN at hlt; omega
      obtain ⟨b, off, rfl, hbK, _⟩ := HS.out.2 (by omega)
      have HSub := Lib.hid (fun w1 (hg1 : Grew w w1) => fl_sub (Slc.grew (g := Value.float .f32) (w' := w1) HS.out hK hg1) k m hkm (by omega))
      have hL : ((xs.drop k).take m).length = m := by simp; omega
      have i3 : (0 : Int) ≤ (k : Int) := by omega
      have i4 : (k : Int) < (xs.length : Int) - (m : Int) + 1 := by omega
      have i5 : IntKind.i64.wrap ((k : Int) + (m : Int)) = (k : Int) + (m : Int) := by rw [IntKind.wrap_i64]; omega
      have i6 : (k : Int) ≤ (k : Int) + (m : Int) := by omega
      have i7 : (k : Int) + (m : Int) ≤ (cap : Int) := by omega
      have hkl : k ≤ 1048576 := by omega
      go_wp2_with (first | (at_builtin; refine wpList_append_own _ rfl _ _ 22 rfl w.heap.size 23 i (.float .f32 0) 1 4 Try.underlying22 HI.out HI0.out HI1.out HI2.out rfl (by decide) _ _ _ rfl ((hrow.out.grew (Nat.le_refl _) hgw).1.alloc _) ⟨_, 0, none⟩ 1 _ [.float .f32 r] rfl rfl (cell_one_new _ _ _) (by simp [Value.oneCell']) (by have := hzl.out; unfold maxLen; omega) (by have := hzl.out; omega) (by have h1 := Below.size hg.out; have h2 := Below.size hgw; simp; omega) ?_; rintro v' w2 hown hgr _; have hrp := Lib.hid (row_push hg.out hrow.out hgw hown hgr); clear hown hgr) | (go_at_call 85; refine (c_meanOf _ _ _ K _ _ (HSub.out _ hg.out) (by unfold maxLen; omega)).mono ?_; rintro e w' ⟨r, rfl, hr, hrf, hgw⟩; have hgw := grew_of_drawn hgw))
      go_roundw
      case rel => exact ⟨k + 1, zs ++ [r], by omega, by go_num, by show (zs ++ [r]).length = k + 1; simp [hzl.out], hrp.out.1, by
            show (zs ++ [r]).map (cl .f32) = _
            rw [List.map_append, hmap.out, List.range_succ, List.map_append]
            simp only [List.map_cons, List.map_nil]
            rw [hr]
            rfl, hrp.out.2⟩
      case measure => simp [intOf]; omega
    · obtain rfl : k = smN xs m := by omega
      have hk2 : smN xs m = xs.length - m + 1 := rfl
      have hlt2 : (decide (((smN xs m : Nat) : Int) < (xs.length : Int) - (m : Int) + 1)) = false := decide_eq_false (by omega)
      have hS : zs.all (fun x => fin (cl .f32 x)) = smOk xs m := by
        unfold smOk
        have := congrArg (fun l => l.all fin) hmap.out
        simpa [List.all_map, Function.comp_def] using this
      have hN : zs.length ≤ 1048576 := by rw [hzl.out]; omega
      cases hB : smOk xs m
      · have hk : okSm xs m = false := by simp [okSm, hB]
        have HK := Lib.hid hk
        have HA := Lib.hid (hS.trans hB)
        generalize smN xs m = NN at *
        go_wp2_with (go_at_call 86; refine (c_checkedList _ _ _ zs _ hrow.out hN).mono ?_; rintro e w' ⟨rfl, nq, rfl⟩)
        go_ret2
        exact ⟨_, [], by rw [HK.out]; rfl, rowAt_nil _ _ _, by rw [smL, HK.out]; rfl, grew_trans hg.out (by (show Below _ _ _; (repeat (first | exact Below.refl _ _ | refine ext_below ?_ (by first | omega | (simp only [size_ext, heap_push, Array.size_push, World.heap_drewN]; omega) | (simp; omega)) _ _ | refine below_draws ?_ _ | refine Below.alloc ?_ (by first | omega | (simp; done) | (simp; omega)) _ | refine Below.setCell ?_ (by first | omega | (simp; done) | (simp; omega)) _ | refine below_then (by assumption) (by first | omega | (simp; done) | (simp; omega)) ?_))))⟩
      · have hk : okSm xs m = true := by simp [okSm, hB, HW.out, HWI.out]
        have hl : smL xs m = (List.range (smN xs m)).map (smD xs m) := by rw [smL, hk]; rfl
        have HK := Lib.hid hk
        have HL := Lib.hid hl
        have HA := Lib.hid (hS.trans hB)
        generalize smN xs m = NN at *
        go_wp2_with (go_at_call 86; refine (c_checkedList _ _ _ zs _ hrow.out hN).mono ?_; rintro e w' ⟨rfl, nq, rfl⟩)
        go_ret2
        exact ⟨_, zs, by rw [HK.out]; rfl, hrow.out.drewN _, by rw [HL.out]; exact hmap.out, grew_trans hg.out (by (show Below _ _ _; (repeat (first | exact Below.refl _ _ | refine ext_below ?_ (by first | omega | (simp only [size_ext, heap_push, Array.size_push, World.heap_drewN]; omega) | (simp; omega)) _ _ | refine below_draws ?_ _ | refine Below.alloc ?_ (by first | omega | (simp; done) | (simp; omega)) _ | refine Below.setCell ?_ (by first | omega | (simp; done) | (simp; omega)) _ | refine below_then (by assumption) (by first | omega | (simp; done) | (simp; omega)) ?_))))⟩

end Go.Proofs.Ytebhefbpkcpnjaa
