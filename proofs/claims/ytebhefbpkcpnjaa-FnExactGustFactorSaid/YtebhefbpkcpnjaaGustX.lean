/-
  CONTRACTS: winds made smooth, in the reference; gusts.
-/
import Derived.Test.YtebhefbpkcpnjaaGustW
namespace Go.Proofs.Ytebhefbpkcpnjaa
open Go.RowKit Go.Flt
set_option linter.unusedVariables false
set_option maxRecDepth 100000
set_option linter.unusedSimpArgs false

def smR (xs : List Nat) (m : Nat) : List Ieee.Datum := if smOk xs m then (List.range (smN xs m)).map (smD xs m) else []

theorem smOk_no {xs : List Nat} {m k : Nat} (hk : k < smN xs m) (h : fin (smD xs m k) = false) : smOk xs m = false := by
  unfold smOk
  rw [List.all_eq_false]
  exact ⟨k, List.mem_range.2 hk, by simp [h]⟩

set_option maxHeartbeats 2000000 in
theorem c_l04Smooth (A : Option Addr) (n cap K : Nat) (xs : List Nat) (m : Nat) (w : World) (h : Fl w K A n xs) (hK : K ≤ w.heap.size) (hn : n ≤ 1048576) (hcap : n ≤ cap) (hc2 : cap ≤ 9223372036854775807) (hm1 : 1 ≤ m) (hm2 : m ≤ xs.length) :
    Calls Try.prog 84 #[.slice A n cap, .int .i64 m] w (RetRow (Value.float .f32) 23 (cl .f32) (smR xs m) (smOk xs m) w) := by
  obtain rfl := h.1
  have HS := Lib.hid h
  clear h
  obtain ⟨i, hi', hz0, hz1, hz2⟩ := info_parts info_float32
  have HI := Lib.hid hi'
  have HI0 := Lib.hid hz0
  have HI1 := Lib.hid hz1
  have HI2 := Lib.hid hz2
  clear hi' hz0 hz1 hz2
  go_enter Try.func84, Try.ntmps84
  go_wp2_with fail
  go_loopw [6, 7] (fun v i wr => ∃ (k : Nat) (zs : List Nat), k ≤ smN xs m ∧ i = .int .i64 k ∧ Hid (zs.length = k) ∧ Hid (FRow wr w.heap.size wr.heap.size v zs) ∧ Hid (zs.map (cl .f32) = (List.range k).map (smD xs m)) ∧ Hid (∀ j, j < k → fin (smD xs m j) = true) ∧ Hid (Grew w wr))
    (fun _ i _ => smN xs m - (intOf i).toNat)
  case atStart => exact ⟨0, [], Nat.zero_le _, rfl, rfl, RowAt.mono (row_made _ (by (show Below _ _ _; (repeat (first | exact Below.refl _ _ | refine ext_below ?_ (by first | omega | (simp only [size_ext, heap_push, Array.size_push, World.heap_drewN]; omega) | (simp; omega)) _ _ | refine below_draws ?_ _ | refine Below.alloc ?_ (by first | omega | (simp; done) | (simp; omega)) _ | refine Below.setCell ?_ (by first | omega | (simp; done) | (simp; omega)) _ | refine below_then (by assumption) (by first | omega | (simp; done) | (simp; omega)) ?_))))).1 (Nat.le_refl _) (by simp), rfl, fun j h => absurd h (by omega), (row_made (g := Value.float .f32) _ (by (show Below _ _ _; (repeat (first | exact Below.refl _ _ | refine ext_below ?_ (by first | omega | (simp only [size_ext, heap_push, Array.size_push, World.heap_drewN]; omega) | (simp; omega)) _ _ | refine below_draws ?_ _ | refine Below.alloc ?_ (by first | omega | (simp; done) | (simp; omega)) _ | refine Below.setCell ?_ (by first | omega | (simp; done) | (simp; omega)) _ | refine below_then (by assumption) (by first | omega | (simp; done) | (simp; omega)) ?_))))).2⟩
  case round =>
    obtain ⟨k, zs, hk, rfl, hzl, hrow, hmap, hall, hg⟩ := hrel
    have i5 : IntKind.i64.wrap ((k : Int) + (m : Int)) = (k : Int) + (m : Int) := by unfold smN at hk; rw [IntKind.wrap_i64]; omega
    by_cases hlt : k < smN xs m
    · have hkm : k + m ≤ xs.length := by unfold smN at hlt; omega
      obtain ⟨b, off, rfl, hbK, _⟩ := HS.out.2 (by omega)
      have HSub := Lib.hid (fun w1 (hg1 : Grew w w1) => fl_sub (Slc.grew (g := Value.float .f32) (w' := w1) HS.out hK hg1) k m hkm (by omega))
      have hL : ((xs.drop k).take m).length = m := by simp; omega
      have i3 : (0 : Int) ≤ (k : Int) := by omega
      have i4 : (k : Int) + (m : Int) ≤ (xs.length : Int) := by omega
      have i6 : (k : Int) ≤ (k : Int) + (m : Int) := by omega
      have i7 : (k : Int) + (m : Int) ≤ (cap : Int) := by omega
      have hkl : k ≤ 1048576 := by omega
      cases hf : fin (smD xs m k)
      · have hb := smOk_no hlt hf
        have HB := Lib.hid hb
        have HF := Lib.hid hf
        clear hb hf
        go_wp2_with (first | (go_at_call 41; refine (c_l04Mean _ _ _ K _ _ (HSub.out _ hg.out) (by unfold maxLen; omega)).mono ?_; rintro e w' ⟨r, rfl, hr, hrf, hgw⟩; have hgw := grew_of_drawn hgw; have hfr := HF.out; rw [smD, ← hr] at hfr; have HRR := Lib.hid hr; clear hr) | (go_at_call 42; refine (c_l01Finite _ _).mono ?_; rintro e w' ⟨rfl, nq, rfl⟩))
        go_ret2
        exact ⟨_, [], by rw [HB.out]; rfl, rowAt_nil _ _ _, by rw [smR, HB.out]; rfl, grew_trans hg.out (grew_trans hgw (by (show Below _ _ _; (repeat (first | exact Below.refl _ _ | refine ext_below ?_ (by first | omega | (simp only [size_ext, heap_push, Array.size_push, World.heap_drewN]; omega) | (simp; omega)) _ _ | refine below_draws ?_ _ | refine Below.alloc ?_ (by first | omega | (simp; done) | (simp; omega)) _ | refine Below.setCell ?_ (by first | omega | (simp; done) | (simp; omega)) _ | refine below_then (by assumption) (by first | omega | (simp; done) | (simp; omega)) ?_)))))⟩
      · have HF := Lib.hid hf
        clear hf
        go_wp2_with (first | (at_builtin; refine wpList_append_own _ rfl _ _ 22 rfl w.heap.size 23 i (.float .f32 0) 1 4 Try.underlying22 HI.out HI0.out HI1.out HI2.out rfl (by decide) _ _ _ rfl ((hrow.out.grew (Nat.le_refl _) hgw).1.alloc _) ⟨_, 0, none⟩ 1 _ [.float .f32 r] rfl rfl (cell_one_new _ _ _) (by simp [Value.oneCell']) (by have := hzl.out; unfold maxLen; omega) (by have := hzl.out; omega) (by have h1 := Below.size hg.out; have h2 := Below.size hgw; simp at h2 ⊢; omega) ?_; rintro v' w2 hown hgr _; have hrp := Lib.hid (row_push hg.out hrow.out hgw hown hgr); clear hown hgr) | (go_at_call 41; refine (c_l04Mean _ _ _ K _ _ (HSub.out _ hg.out) (by unfold maxLen; omega)).mono ?_; rintro e w' ⟨r, rfl, hr, hrf, hgw⟩; have hgw := grew_of_drawn hgw; have hfr := HF.out; rw [smD, ← hr] at hfr; have HRR := Lib.hid hr; clear hr) | (go_at_call 42; refine (c_l01Finite _ _).mono ?_; rintro e w' ⟨rfl, nq, rfl⟩; have hgw := grew_trans hgw (grew_of_drawn ⟨nq, rfl⟩)))
        go_roundw
        case rel => exact ⟨k + 1, zs ++ [r], by omega, by go_num, by show (zs ++ [r]).length = k + 1; simp [hzl.out], hrp.out.1, by
              show (zs ++ [r]).map (cl .f32) = _
              rw [List.map_append, hmap.out, List.range_succ, List.map_append]
              simp only [List.map_cons, List.map_nil]
              rw [HRR.out]
              rfl, fun j hj => (by
                rcases Nat.lt_or_ge j k with h | h
                · exact hall.out j h
                · obtain rfl : j = k := by omega
                  exact HF.out), hrp.out.2⟩
        case measure => simp [intOf]; omega
    · obtain rfl : k = smN xs m := by omega
      have hk2 : smN xs m = xs.length - m + 1 := rfl
      have hb : smOk xs m = true := by
        unfold smOk
        rw [List.all_eq_true]
        exact fun j hj => hall.out j (List.mem_range.1 hj)
      have HB := Lib.hid hb
      have HL := Lib.hid (show smR xs m = (List.range (smN xs m)).map (smD xs m) by rw [smR, hb]; rfl)
      have hno : ((smN xs m : Nat) : Int) + (m : Int) = (xs.length : Int) + 1 := by omega
      have hno2 : decide (((smN xs m : Nat) : Int) + (m : Int) ≤ (xs.length : Int)) = false := decide_eq_false (by omega)
      clear hb
      generalize smN xs m = NN at *
      go_wp2_with fail
      go_ret2
      exact ⟨_, zs, by rw [HB.out]; rfl, hrow.out, by rw [HL.out]; exact hmap.out, hg.out⟩

theorem c_specSmooth (A : Option Addr) (n cap K : Nat) (xs : List Nat) (q : Int) (w : World) (h : Fl w K A n xs) (hK : K ≤ w.heap.size) (hn : n ≤ 1048576) (hcap : n ≤ cap) (hc2 : cap ≤ 9223372036854775807) :
    Calls Try.prog 40 #[.slice A n cap, .int .i64 q] w (RetRow (Value.float .f32) 23 (cl .f32) (smL xs q) (okSm xs q) w) := by
  obtain rfl := h.1
  have HS := Lib.hid h
  clear h
  cases hw : winds xs
  · have HK := Lib.hid (show okSm xs q = false by simp [okSm, hw])
    go_enter Try.func40, Try.ntmps40
    go_wp2_with (go_at_call 63; refine (c_l04Winds _ _ _ K xs _ HS.out hn).mono ?_; rintro e w' ⟨rfl, nq, rfl⟩)
    go_ret2
    exact ⟨_, [], by rw [HK.out]; rfl, rowAt_nil _ _ _, by rw [smL, HK.out]; rfl, by (show Below _ _ _; (repeat (first | exact Below.refl _ _ | refine ext_below ?_ (by first | omega | (simp only [size_ext, heap_push, Array.size_push, World.heap_drewN]; omega) | (simp; omega)) _ _ | refine below_draws ?_ _ | refine Below.alloc ?_ (by first | omega | (simp; done) | (simp; omega)) _ | refine Below.setCell ?_ (by first | omega | (simp; done) | (simp; omega)) _ | refine below_then (by assumption) (by first | omega | (simp; done) | (simp; omega)) ?_)))⟩
  cases hi : within q 1 xs.length
  · have HK := Lib.hid (show okSm xs q = false by simp [okSm, hi])
    go_enter Try.func40, Try.ntmps40
    go_wp2_with (first | (go_at_call 63; refine (c_l04Winds _ _ _ K xs _ HS.out hn).mono ?_; rintro e w' ⟨rfl, nq, rfl⟩) | (go_at_call 57; refine (c_l00In _ _ _ _).mono ?_; rintro e w' ⟨rfl, nq, rfl⟩))
    go_ret2
    exact ⟨_, [], by rw [HK.out]; rfl, rowAt_nil _ _ _, by rw [smL, HK.out]; rfl, by (show Below _ _ _; (repeat (first | exact Below.refl _ _ | refine ext_below ?_ (by first | omega | (simp only [size_ext, heap_push, Array.size_push, World.heap_drewN]; omega) | (simp; omega)) _ _ | refine below_draws ?_ _ | refine Below.alloc ?_ (by first | omega | (simp; done) | (simp; omega)) _ | refine Below.setCell ?_ (by first | omega | (simp; done) | (simp; omega)) _ | refine below_then (by assumption) (by first | omega | (simp; done) | (simp; omega)) ?_)))⟩
  have hq : ∃ m : Nat, q = (m : Int) ∧ 1 ≤ m ∧ m ≤ xs.length := by
    unfold within at hi
    simp at hi
    exact ⟨q.toNat, by omega, by omega, by omega⟩
  obtain ⟨m, rfl, hm1, hm2⟩ := hq
  have HK := Lib.hid (show okSm xs m = smOk xs m by simp [okSm, hi, hw])
  have HL := Lib.hid (show smL xs m = smR xs m by unfold smL smR; rw [HK.out]; rfl)
  go_enter Try.func40, Try.ntmps40
  go_wp2_with (first | (go_at_call 63; refine (c_l04Winds _ _ _ K xs _ HS.out hn).mono ?_; rintro e w' ⟨rfl, nq, rfl⟩) | (go_at_call 57; refine (c_l00In _ _ _ _).mono ?_; rintro e w' ⟨rfl, nq, rfl⟩) | (go_at_call 84; (refine (c_l04Smooth _ _ _ K xs m _ (Slc.drewN (g := Value.float .f32) HS.out _) hK hn hcap hc2 hm1 hm2).mono ?_; rintro e w' ⟨v, zs, rfl, hr, hm, hg⟩)))
  go_ret2
  exact ⟨_, zs, by rw [HK.out]; rfl, hr, by rw [HL.out]; exact hm, by (show Below _ _ _; (repeat (first | exact Below.refl _ _ | refine ext_below ?_ (by first | omega | (simp only [size_ext, heap_push, Array.size_push, World.heap_drewN]; omega) | (simp; omega)) _ _ | refine below_draws ?_ _ | refine Below.alloc ?_ (by first | omega | (simp; done) | (simp; omega)) _ | refine Below.setCell ?_ (by first | omega | (simp; done) | (simp; omega)) _ | refine below_then (by assumption) (by first | omega | (simp; done) | (simp; omega)) ?_)))⟩

end Go.Proofs.Ytebhefbpkcpnjaa
