/-
  CONTRACTS: winds in bins, in the program.
-/
import Derived.Test.YtebhefbpkcpnjaaBinsW
namespace Go.Proofs.Ytebhefbpkcpnjaa
open Go.RowKit Go.Flt
set_option linter.unusedVariables false
set_option maxRecDepth 100000
set_option linter.unusedSimpArgs false

set_option maxHeartbeats 1000000 in
theorem c_implBins (A : Option Addr) (n cap K : Nat) (xs : List Nat) (wd : Nat) (cn : Int) (w : World) (h : Fl w K A n xs) (hK : K ≤ w.heap.size) (hn : n ≤ 1048576) :
    Calls Try.prog 33 #[.slice A n cap, .float .f32 wd, .int .i64 cn] w (RetRow (Value.int .i64) 2 id (bn xs wd cn) (bnOk xs wd cn) w) := by
  obtain rfl := h.1
  have HB := Lib.hid h
  have HS := Lib.hid (fun w' h' => Slc.grew (g := Value.float .f32) (w' := w') h hK h')
  clear h
  have HMX := Lib.hid (show xs.length ≤ maxLen by unfold maxLen; omega)
  have HA := Lib.hid (show (!([wd].any fun x => !fin (cl .f32 x) || fle (cl .f32 x) (cl .f32 0))) = above (cl .f32 wd) by simp [above_not])
  have hp : ∀ w cap b, Fl w (b + 1) (some ⟨b, 0, none⟩) [wd].length [wd] → Calls Try.prog 71 #[.slice (some ⟨b, 0, none⟩) 1 cap] w fun e w' => e = .returned (.bool (above (cl .f32 wd))) ∧ ∃ n, w' = w.drewN n := by
    intro w cap b h
    rw [← HA.out]
    exact c_arePositive _ cap _ _ w h (by simp [maxLen])
  have HP := Lib.hid hp
  clear hp
  cases hok : bnOk xs wd cn
  · have HK := Lib.hid hok
    have e : bn xs wd cn = [] := by simp [bn, hok]
    have HE := Lib.hid e
    clear e
    cases h1 : winds xs
    · go_enter Try.func33, Try.ntmps33
      go_wp2_with (first | (go_at_call 77; refine (c_areWinds _ _ _ K xs _ HB.out HMX.out).mono ?_; rintro e w' ⟨rfl, nq, rfl⟩) | (go_at_call 71; refine (HP.out _ _ _ (fl_new _ [wd] _ _ _ (by simp) rfl)).mono ?_; rintro e w' ⟨rfl, nq, rfl⟩) | (go_at_call 73; refine (c_within _ _ _ _).mono ?_; rintro e w' ⟨rfl, nq, rfl⟩))
      go_ret2
      exact ⟨_, [], rfl, rowAt_nil _ _ _, by rw [HE.out]; rfl, by (show Below _ _ _; (repeat (first | exact Below.refl _ _ | refine ext_below ?_ (by first | omega | (simp only [size_ext, heap_push, Array.size_push, World.heap_drewN]; omega) | (simp; omega)) _ _ | refine below_draws ?_ _ | refine Below.alloc ?_ (by first | omega | (simp; done) | (simp; omega)) _ | refine Below.setCell ?_ (by first | omega | (simp; done) | (simp; omega)) _ | refine below_then (by assumption) (by first | omega | (simp; done) | (simp; omega)) ?_)))⟩
    cases h2 : above (cl .f32 wd)
    · go_enter Try.func33, Try.ntmps33
      go_wp2_with (first | (go_at_call 77; refine (c_areWinds _ _ _ K xs _ HB.out HMX.out).mono ?_; rintro e w' ⟨rfl, nq, rfl⟩) | (go_at_call 71; refine (HP.out _ _ _ (fl_new _ [wd] _ _ _ (by simp) rfl)).mono ?_; rintro e w' ⟨rfl, nq, rfl⟩) | (go_at_call 73; refine (c_within _ _ _ _).mono ?_; rintro e w' ⟨rfl, nq, rfl⟩))
      go_ret2
      exact ⟨_, [], rfl, rowAt_nil _ _ _, by rw [HE.out]; rfl, by (show Below _ _ _; (repeat (first | exact Below.refl _ _ | refine ext_below ?_ (by first | omega | (simp only [size_ext, heap_push, Array.size_push, World.heap_drewN]; omega) | (simp; omega)) _ _ | refine below_draws ?_ _ | refine Below.alloc ?_ (by first | omega | (simp; done) | (simp; omega)) _ | refine Below.setCell ?_ (by first | omega | (simp; done) | (simp; omega)) _ | refine below_then (by assumption) (by first | omega | (simp; done) | (simp; omega)) ?_)))⟩
    have h3 : within cn 1 16 = false := by
      rw [bnOk, h1, h2] at hok
      simpa using hok
    go_enter Try.func33, Try.ntmps33
    go_wp2_with (first | (go_at_call 77; refine (c_areWinds _ _ _ K xs _ HB.out HMX.out).mono ?_; rintro e w' ⟨rfl, nq, rfl⟩) | (go_at_call 71; refine (HP.out _ _ _ (fl_new _ [wd] _ _ _ (by simp) rfl)).mono ?_; rintro e w' ⟨rfl, nq, rfl⟩) | (go_at_call 73; refine (c_within _ _ _ _).mono ?_; rintro e w' ⟨rfl, nq, rfl⟩))
    go_ret2
    exact ⟨_, [], rfl, rowAt_nil _ _ _, by rw [HE.out]; rfl, by (show Below _ _ _; (repeat (first | exact Below.refl _ _ | refine ext_below ?_ (by first | omega | (simp only [size_ext, heap_push, Array.size_push, World.heap_drewN]; omega) | (simp; omega)) _ _ | refine below_draws ?_ _ | refine Below.alloc ?_ (by first | omega | (simp; done) | (simp; omega)) _ | refine Below.setCell ?_ (by first | omega | (simp; done) | (simp; omega)) _ | refine below_then (by assumption) (by first | omega | (simp; done) | (simp; omega)) ?_)))⟩
  obtain ⟨c, rfl, hc, h1, ha, h2, hbn⟩ := bnOk_parts hok
  have h3 : within ((c : Int) + 1) 1 16 = true := by
    unfold within; simp; omega
  have HBN := Lib.hid hbn
  have HST := Lib.hid (fun k sz wr hk hown => bn_row (xs := xs) (wd := wd) (c := c) (k := k) (sz := sz) (wr := wr) hk ha h2 hc hown)
  have HWD := Lib.hid (fun k hk => bn_words (xs := xs) (wd := wd) (c := c) (k := k) hk ha h2 hc)
  have HM : ∀ w, (Instr.makeSlice 53 (.int .i64 ((c : Int) + 1)) (.int .i64 ((c : Int) + 1))).run Try.prog w = .ok (.slice (some ⟨w.heap.size, 0, none⟩) (c + 1) (c + 1)) (w.alloc (.cells (List.replicate (c + 1) (Value.int .i64 0)).toArray 2)) := fun w => by simpa using mk_i64b (c + 1) (by omega) w
  have HK := Lib.hid hok
  have HC := Lib.hid hc
  clear ha hbn hok
  go_enter Try.func33, Try.ntmps33
  go_wp2_with (first | (go_at_call 77; refine (c_areWinds _ _ _ K xs _ HB.out HMX.out).mono ?_; rintro e w' ⟨rfl, nq, rfl⟩) | (go_at_call 71; refine (HP.out _ _ _ (fl_new _ [wd] _ _ _ (by simp) rfl)).mono ?_; rintro e w' ⟨rfl, nq, rfl⟩) | (go_at_call 73; refine (c_within _ _ _ _).mono ?_; rintro e w' ⟨rfl, nq, rfl⟩))
  have h0 : ∀ W : World, W.heap.size = w.heap.size + 1 → Hid (Own (Value.int .i64) 2 (W.alloc (.cells (Array.replicate (c + 1) (Value.int .i64 0)) 2)) (w.heap.size + 1) (bnTo xs wd c 0)) := fun W hW => by
    show Own _ _ _ _ _
    unfold Own
    rw [← hW]
    simp [heap_push, Array.getElem?_push, bnTo]
  have H0 := Lib.hid h0
  clear h0 HM
  go_loopw [30] (fun i wr => ∃ k : Nat, k ≤ xs.length ∧ i = .int .i64 k ∧ Hid (Own (Value.int .i64) 2 wr (w.heap.size + 1) (bnTo xs wd c k)) ∧ Hid (Grew w wr)) (fun i _ => xs.length - (intOf i).toNat)
  case atStart => exact ⟨0, Nat.zero_le _, rfl, H0.out _ (by simp), by show Grew _ _; (show Below _ _ _; (repeat (first | exact Below.refl _ _ | refine ext_below ?_ (by first | omega | (simp only [size_ext, heap_push, Array.size_push, World.heap_drewN]; omega) | (simp; omega)) _ _ | refine below_draws ?_ _ | refine Below.alloc ?_ (by first | omega | (simp; done) | (simp; omega)) _ | refine Below.setCell ?_ (by first | omega | (simp; done) | (simp; omega)) _ | refine below_then (by assumption) (by first | omega | (simp; done) | (simp; omega)) ?_)))⟩
  case round =>
    obtain ⟨k, hk, rfl, hown, hg⟩ := hrel
    by_cases hlt : k < xs.length
    · obtain ⟨b, off, rfl, hbK, hcc⟩ := (HS.out wr hg.out).2 (by omega)
      have hcell := hcc k (xs.getD k 0) (by simp [hlt])
      clear hcc
      obtain ⟨q, hq, hqc, hd, hf, hset⟩ := HST.out k _ wr hlt hown.out
      have HSET := Lib.hid hset
      have hwds := HWD.out k hlt
      rw [← hq] at hwds
      have hQ : bnQ xs wd k = flo (wid (fop .quo .f32 (cl .f32 (xs.getD k 0)) (cl .f32 wd))) := rfl
      have hq0 : flt (bnQ xs wd k) (whole c) = false → q = c := by
        intro h; rw [hq]; unfold binK; rw [h]; rfl
      rw [hQ] at hwds hq0
      unfold whole at hwds hq0
      have i1 : (0 : Int) ≤ (q : Int) := by omega
      have i2 : (q : Int) < (c : Int) + 1 := by omega
      have i3 : (0 : Int) ≤ (k : Int) := by omega
      have i4 : (k : Int) < (xs.length : Int) := by omega
      have i6 : IntKind.i64.wrap (q : Int) = (q : Int) := by rw [IntKind.wrap_i64]; omega
      have HW := Lib.hid (show wrap64 ((k : Int) + 1) = (k : Int) + 1 by unfold wrap64; omega)
      generalize (bnTo xs wd c k).getD q 0 = y at *
      generalize xs.getD k 0 = x at *
      have HT := Lib.hid hwds
      clear hwds hset hQ hq0 hq
      go_wp2_with (first | (refine upon_widen _ _ _ some_f32 Try.underlying28 ?_; intro z n hz hzw) | (refine upon_fbin rfl _ _ _ _ ?_; intro z n hz hzw) | (go_at_call 76; refine (c_FloorA _ _ (upz_nan (by rw [hz]; exact (HT.out _ (by assumption)).1))).mono ?_; rintro e w' ⟨r, rfl, hr, nq, rfl⟩; have hall := (HT.out _ (by assumption)).2 _ hz _ hr; obtain ⟨mw, hmw⟩ : ∃ mw, mw = (if flt (whole c) (cl .f64 r) then floatOfInt .f64 c else r) := ⟨_, rfl⟩; have hmn : ∀ (w : World) (ts : Array TypeId) (t : TypeId), (Builtin.min_ ts t #[.float .f64 (floatOfInt .f64 c), .float .f64 r]).run Try.prog w = .ok (.float .f64 mw) w := (fun w ts t => hmw ▸ run_min_float w ts t c r HC.out hall.1); have hcv := fun w => run_convert_float_int (P := Try.prog) w 28 2 .f64 .i64 mw (q : Int) some_f64 Try.underlying2 (hmw ▸ hall.2.2); clear hmw hall) | (simp only [hmn]) | (simp only [hcv]))
      go_roundw
      case rel => exact ⟨k + 1, by omega, by have e := HW.out; simp [e], (show Own _ _ _ _ _ from HSET.out _ rfl), grew_draw _ _ (grew_set hg.out (Nat.le_succ _))⟩
      case measure => simp [intOf]; omega
    · obtain rfl : k = xs.length := by omega
      have i4 : ¬ (xs.length : Int) < (xs.length : Int) := by omega
      have hl := bnTo_len xs wd c xs.length
      have HR := Lib.hid (hown.out.rowAt (lo := w.heap.size) (hi := wr.heap.size) (Nat.le_succ _) hown.out.lt (by rw [hl]; unfold maxLen; omega))
      rw [hl] at HR
      clear hl
      generalize bnTo xs wd c xs.length = BN at *
      go_wp2_with fail
      go_ret2
      exact ⟨_, BN, rfl, HR.out, by rw [List.map_id, HBN.out], hg.out⟩

end Go.Proofs.Ytebhefbpkcpnjaa
