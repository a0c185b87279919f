/-
  CONTRACTS: winds in bins.
-/
import Derived.Test.YtebhefbpkcpnjaaBins
import Derived.Test.YtebhefbpkcpnjaaGustS
import Derived.Test.YtebhefbpkcpnjaaCount
namespace Go.Proofs.Ytebhefbpkcpnjaa
open Go.RowKit Go.Flt
set_option linter.unusedVariables false
set_option maxRecDepth 100000
set_option linter.unusedSimpArgs false

theorem ext_archFloorA (z : Nat) (w : World) (h : (cl .f64 z).isNaN = false) : (callFunc 94 #[.float .f64 z]).run Try.prog w = .ok (.value (.float .f64 (FloatKind.f64.encode ((FloatKind.f64.decode z).integral .down)))) w := by
  rw [run_callFunc_extern Try.func94 (by kernel_rfl) (by kernel_rfl) (by kernel_rfl) (show Extern.find Try.f94 = some (Extern.MathFloor.toIntegral "math.archFloor" .down) by kernel_rfl)]
  obtain ⟨X, hX⟩ : ∃ X : Bool → Nat → Sem Value, Extern.MathFloor.toIntegral "math.archFloor" .down #[.float .f64 z] = (match FloatKind.f64.decode z with
    | .nan s t => X s t
    | d => pure (.float .f64 (FloatKind.f64.encode (d.integral .down)))) := ⟨_, rfl⟩
  rw [hX]
  rcases cl_or .f64 z with ⟨s, t, _, h'⟩ | ⟨h', hn⟩
  · rw [h'] at h; cases h
  · cases hd : FloatKind.f64.decode z with
    | nan s t => exact absurd hd (hn s t)
    | infinity s => rfl
    | number s m e => rfl

theorem c_FloorA (z : Nat) (w : World) (h : (cl .f64 z).isNaN = false) : Calls Try.prog 76 #[.float .f64 z] w fun e w' => ∃ r, e = .returned (.float .f64 r) ∧ cl .f64 r = flo (cl .f64 z) ∧ ∃ n, w' = w.drewN n := by
  have hx := fun w => ext_archFloorA z w h
  have hf : Hid (cl .f64 (FloatKind.f64.encode ((FloatKind.f64.decode z).integral .down)) = flo (cl .f64 z)) := by
    rcases cl_or .f64 z with ⟨s, t, _, h'⟩ | ⟨h', hn⟩
    · rw [h'] at h; cases h
    · show cl .f64 _ = flo _
      rw [h']
      cases hd : FloatKind.f64.decode z with
      | nan s t => exact absurd hd (hn s t)
      | infinity s => rfl
      | number s m e => rfl
  clear h
  go_enter Try.func76, Try.ntmps76
  go_wp2_with fail
  go_ret
  exact ⟨_, rfl, hf.out, 0, rfl⟩

theorem upz_nan {x : Ieee.Datum} (h : upz x = true) : x.isNaN = false := by
  cases x <;> first | rfl | cases h

theorem info_i64b : (Try.prog.info? 2).map (fun i => (i.zero, i.size, i.bytes)) = some (some (.int .i64 0), 1, 8) := by kernel_rfl

theorem mk_i64b (n : Nat) (hn : n ≤ 1048576) (w : World) : (Instr.makeSlice 53 (.int .i64 (n : Int)) (.int .i64 (n : Int))).run Try.prog w = .ok (.slice (some ⟨w.heap.size, 0, none⟩) n n) (w.alloc (.cells (List.replicate n (.int .i64 0)).toArray 2)) := by
  obtain ⟨i, hi, hz0, hz1, hz2⟩ := info_parts info_i64b
  exact made 53 2 i (.int .i64 0) Try.underlying53 hi hz0 hz1 rfl (by omega) n hn w

/-- The floor of wind k over the width. -/
def bnQ (xs : List Nat) (wd k : Nat) : Ieee.Datum := flo (wid (fop .quo .f32 (cl .f32 (xs.getD k 0)) (cl .f32 wd)))

def bnTo (xs : List Nat) (wd c : Nat) : Nat → List Int
  | 0 => List.replicate (c + 1) 0
  | k + 1 => addAt (bnTo xs wd c k) (binK (bnQ xs wd k) c)

theorem bnTo_len (xs : List Nat) (wd c k : Nat) : (bnTo xs wd c k).length = c + 1 := by
  induction k with
  | zero => simp [bnTo]
  | succ k ih => simp [bnTo, addAt, ih]

def bnOk (xs : List Nat) (wd : Nat) (c : Int) : Bool := winds xs && above (cl .f32 wd) && within c 1 16

def bn (xs : List Nat) (wd : Nat) (c : Int) : List Int := if bnOk xs wd c then bnTo xs wd (c.toNat - 1) xs.length else []

theorem bn_good {xs : List Nat} {wd k : Nat} (hk : k < xs.length) (ha : allLeast xs = true) (hw : above (cl .f32 wd) = true) : upz (fop .quo .f32 (cl .f32 (xs.getD k 0)) (cl .f32 wd)) = true := by
  have hx : least (cl .f32 (xs.getD k 0)) = true := by
    unfold allLeast at ha
    rw [List.all_eq_true] at ha
    exact ha _ (getD_mem _ _ _ hk)
  unfold least at hx
  unfold above at hw
  rw [Bool.and_eq_true, fin_eq] at hx hw
  exact upz_quo hx.1 hx.2 hw.1 hw.2

/-- What a round has to know of its words. -/
theorem bn_words {xs : List Nat} {wd c k : Nat} (hk : k < xs.length) (ha : allLeast xs = true) (hw : above (cl .f32 wd) = true) (hc : c < 16) :
    ∀ z1, cl .f32 z1 = fop .quo .f32 (cl .f32 (xs.getD k 0)) (cl .f32 wd) → upz (wid (cl .f32 z1)) = true ∧ ∀ z2, cl .f64 z2 = wid (cl .f32 z1) → ∀ r, cl .f64 r = flo (cl .f64 z2) →
      upz (cl .f64 r) = true ∧ (flt (bnQ xs wd k) (whole c) = true → floatToIntVal .f64 r .i64 = some (binK (bnQ xs wd k) c : Int)) ∧ floatToIntVal .f64 (if flt (whole c) (cl .f64 r) then floatOfInt .f64 c else r) .i64 = some (binK (bnQ xs wd k) c : Int) := by
  intro z1 h1
  have hu : upz (wid (cl .f32 z1)) = true := upz_wid z1 (by rw [h1]; exact bn_good hk ha hw)
  refine ⟨hu, fun z2 h2 r h3 => ?_⟩
  have hr : upz (cl .f64 r) = true := by rw [h3, h2]; exact upz_flo hu
  have e : bnQ xs wd k = cl .f64 r := by unfold bnQ; rw [h3, h2, h1]
  rw [e]
  exact ⟨hr, fun hl => (bin_lt hc hr hl).2, bin_min hc hr⟩

/-- What a round has to know of the row. -/
theorem bn_row {xs : List Nat} {wd c k sz : Nat} {wr : World} (hk : k < xs.length) (ha : allLeast xs = true) (hw : above (cl .f32 wd) = true) (hc : c < 16) (hown : Own (Value.int .i64) 2 wr sz (bnTo xs wd c k)) :
    ∃ q : Nat, q = binK (bnQ xs wd k) c ∧ q ≤ c ∧ wr.cell? ⟨sz, q, none⟩ = some (.int .i64 ((bnTo xs wd c k).getD q 0)) ∧ wr.frozen? ⟨sz, q, none⟩ = false ∧
        ∀ v, v = wrap64 ((bnTo xs wd c k).getD q 0 + 1) → Own (Value.int .i64) 2 (wr.setCell ⟨sz, q, none⟩ (.int .i64 v)) sz (bnTo xs wd c (k + 1)) := by
  obtain ⟨z1, h1⟩ : ∃ z1, cl .f32 z1 = fop .quo .f32 (cl .f32 (xs.getD k 0)) (cl .f32 wd) := by
    obtain ⟨z, n, _, h, _⟩ := run_fbin (P := Try.prog) (op := .quo) (w := wr) rfl 23 .f32 (xs.getD k 0) wd
    exact ⟨z, h⟩
  have hl := bnTo_len xs wd c k
  have hq : binK (bnQ xs wd k) c ≤ c := by
    have hu : upz (wid (cl .f32 z1)) = true := upz_wid z1 (by rw [h1]; exact bn_good hk ha hw)
    have e : bnQ xs wd k = flo (wid (cl .f32 z1)) := by unfold bnQ; rw [h1]
    rw [e]
    generalize wid (cl .f32 z1) = W at hu ⊢
    cases W with
    | nan s t => cases hu
    | infinity s => exact bin_le hc (upz_flo hu)
    | number s m p => exact bin_le hc (upz_flo hu)
  refine ⟨_, rfl, hq, hown.cell (by simp [show binK (bnQ xs wd k) c < (bnTo xs wd c k).length by omega]), hown.free _, fun v hv => ?_⟩
  have e : bnTo xs wd c (k + 1) = (bnTo xs wd c k).set (binK (bnQ xs wd k) c) v := by
    rw [hv, show bnTo xs wd c (k + 1) = addAt (bnTo xs wd c k) (binK (bnQ xs wd k) c) from rfl]
    rfl
  rw [e]
  exact hown.set _ v

theorem bnOk_parts {xs : List Nat} {wd : Nat} {n : Int} (h : bnOk xs wd n = true) : ∃ c : Nat, n = (c : Int) + 1 ∧ c < 16 ∧ winds xs = true ∧ allLeast xs = true ∧ above (cl .f32 wd) = true ∧ bn xs wd n = bnTo xs wd c xs.length := by
  have h0 := h
  unfold bnOk at h
  simp only [Bool.and_eq_true] at h
  obtain ⟨⟨h1, h2⟩, h3⟩ := h
  unfold within at h3
  simp at h3
  have ha : allLeast xs = true := by
    have := h1
    unfold winds at this
    simp only [Bool.and_eq_true] at this
    exact this.2
  refine ⟨n.toNat - 1, by omega, by omega, h1, ha, h2, by rw [bn, if_pos h0]⟩

set_option maxHeartbeats 1000000 in
theorem c_specBins (A : Option Addr) (n cap K : Nat) (xs : List Nat) (wd : Nat) (cn : Int) (w : World) (h : Fl w K A n xs) (hK : K ≤ w.heap.size) (hn : n ≤ 1048576) :
    Calls Try.prog 32 #[.slice A n cap, .float .f32 wd, .int .i64 cn] w (RetRow (Value.int .i64) 2 id (bn xs wd cn) (bnOk xs wd cn) w) := by
  obtain rfl := h.1
  have HB := Lib.hid h
  have HS := Lib.hid (fun w' h' => Slc.grew (g := Value.float .f32) (w' := w') h hK h')
  clear h
  cases hok : bnOk xs wd cn
  · have HK := Lib.hid hok
    have e : bn xs wd cn = [] := by simp [bn, hok]
    have HE := Lib.hid e
    clear e
    cases h1 : winds xs
    · go_enter Try.func32, Try.ntmps32
      go_wp2_with (first | (go_at_call 63; refine (c_l04Winds _ _ _ K xs _ HB.out hn).mono ?_; rintro e w' ⟨rfl, nq, rfl⟩) | (go_at_call 67; refine (c_l02Above _ _).mono ?_; rintro e w' ⟨rfl, nq, rfl⟩) | (go_at_call 57; refine (c_l00In _ _ _ _).mono ?_; rintro e w' ⟨rfl, nq, rfl⟩))
      go_ret2
      exact ⟨_, [], rfl, rowAt_nil _ _ _, by rw [HE.out]; rfl, by (show Below _ _ _; (repeat (first | exact Below.refl _ _ | refine ext_below ?_ (by first | omega | (simp only [size_ext, heap_push, Array.size_push, World.heap_drewN]; omega) | (simp; omega)) _ _ | refine below_draws ?_ _ | refine Below.alloc ?_ (by first | omega | (simp; done) | (simp; omega)) _ | refine Below.setCell ?_ (by first | omega | (simp; done) | (simp; omega)) _ | refine below_then (by assumption) (by first | omega | (simp; done) | (simp; omega)) ?_)))⟩
    cases h2 : above (cl .f32 wd)
    · go_enter Try.func32, Try.ntmps32
      go_wp2_with (first | (go_at_call 63; refine (c_l04Winds _ _ _ K xs _ HB.out hn).mono ?_; rintro e w' ⟨rfl, nq, rfl⟩) | (go_at_call 67; refine (c_l02Above _ _).mono ?_; rintro e w' ⟨rfl, nq, rfl⟩) | (go_at_call 57; refine (c_l00In _ _ _ _).mono ?_; rintro e w' ⟨rfl, nq, rfl⟩))
      go_ret2
      exact ⟨_, [], rfl, rowAt_nil _ _ _, by rw [HE.out]; rfl, by (show Below _ _ _; (repeat (first | exact Below.refl _ _ | refine ext_below ?_ (by first | omega | (simp only [size_ext, heap_push, Array.size_push, World.heap_drewN]; omega) | (simp; omega)) _ _ | refine below_draws ?_ _ | refine Below.alloc ?_ (by first | omega | (simp; done) | (simp; omega)) _ | refine Below.setCell ?_ (by first | omega | (simp; done) | (simp; omega)) _ | refine below_then (by assumption) (by first | omega | (simp; done) | (simp; omega)) ?_)))⟩
    have h3 : within cn 1 16 = false := by
      rw [bnOk, h1, h2] at hok
      simpa using hok
    go_enter Try.func32, Try.ntmps32
    go_wp2_with (first | (go_at_call 63; refine (c_l04Winds _ _ _ K xs _ HB.out hn).mono ?_; rintro e w' ⟨rfl, nq, rfl⟩) | (go_at_call 67; refine (c_l02Above _ _).mono ?_; rintro e w' ⟨rfl, nq, rfl⟩) | (go_at_call 57; refine (c_l00In _ _ _ _).mono ?_; rintro e w' ⟨rfl, nq, rfl⟩))
    go_ret2
    exact ⟨_, [], rfl, rowAt_nil _ _ _, by rw [HE.out]; rfl, by (show Below _ _ _; (repeat (first | exact Below.refl _ _ | refine ext_below ?_ (by first | omega | (simp only [size_ext, heap_push, Array.size_push, World.heap_drewN]; omega) | (simp; omega)) _ _ | refine below_draws ?_ _ | refine Below.alloc ?_ (by first | omega | (simp; done) | (simp; omega)) _ | refine Below.setCell ?_ (by first | omega | (simp; done) | (simp; omega)) _ | refine below_then (by assumption) (by first | omega | (simp; done) | (simp; omega)) ?_)))⟩
  obtain ⟨c, rfl, hc, h1, ha, h2, hbn⟩ := bnOk_parts hok
  have h3 : within ((c : Int) + 1) 1 16 = true := by
    unfold within; simp; omega
  have HBN := Lib.hid hbn
  have HST := Lib.hid (fun k sz wr hk hown => bn_row (xs := xs) (wd := wd) (c := c) (k := k) (sz := sz) (wr := wr) hk ha h2 hc hown)
  have HWD := Lib.hid (fun k hk => bn_words (xs := xs) (wd := wd) (c := c) (k := k) hk ha h2 hc)
  have HM : ∀ w, (Instr.makeSlice 53 (.int .i64 ((c : Int) + 1)) (.int .i64 ((c : Int) + 1))).run Try.prog w = .ok (.slice (some ⟨w.heap.size, 0, none⟩) (c + 1) (c + 1)) (w.alloc (.cells (List.replicate (c + 1) (Value.int .i64 0)).toArray 2)) := fun w => by simpa using mk_i64b (c + 1) (by omega) w
  have HK := Lib.hid hok
  clear ha hbn hok
  go_enter Try.func32, Try.ntmps32
  go_wp2_with (first | (go_at_call 63; refine (c_l04Winds _ _ _ K xs _ HB.out hn).mono ?_; rintro e w' ⟨rfl, nq, rfl⟩) | (go_at_call 67; refine (c_l02Above _ _).mono ?_; rintro e w' ⟨rfl, nq, rfl⟩) | (go_at_call 57; refine (c_l00In _ _ _ _).mono ?_; rintro e w' ⟨rfl, nq, rfl⟩))
  have h0 : ∀ nq, Hid (Own (Value.int .i64) 2 ((w.drewN nq).alloc (.cells (Array.replicate (c + 1) (Value.int .i64 0)) 2)) w.heap.size (bnTo xs wd c 0)) := fun nq => by
    show Own _ _ _ _ _
    unfold Own
    simp [heap_push, Array.getElem?_push, bnTo]
  have H0 := Lib.hid h0
  clear h0 HM
  go_loopw [9] (fun i wr => ∃ k : Nat, k ≤ xs.length ∧ i = .int .i64 k ∧ Hid (Own (Value.int .i64) 2 wr w.heap.size (bnTo xs wd c k)) ∧ Hid (Grew w wr)) (fun i _ => xs.length - (intOf i).toNat)
  case atStart => exact ⟨0, Nat.zero_le _, rfl, H0.out _, by show Grew _ _; (show Below _ _ _; (repeat (first | exact Below.refl _ _ | refine ext_below ?_ (by first | omega | (simp only [size_ext, heap_push, Array.size_push, World.heap_drewN]; omega) | (simp; omega)) _ _ | refine below_draws ?_ _ | refine Below.alloc ?_ (by first | omega | (simp; done) | (simp; omega)) _ | refine Below.setCell ?_ (by first | omega | (simp; done) | (simp; omega)) _ | refine below_then (by assumption) (by first | omega | (simp; done) | (simp; omega)) ?_)))⟩
  case round =>
    obtain ⟨k, hk, rfl, hown, hg⟩ := hrel
    by_cases hlt : k < xs.length
    · obtain ⟨b, off, rfl, hbK, hcc⟩ := (HS.out wr hg.out).2 (by omega)
      have hcell := hcc k (xs.getD k 0) (by simp [hlt])
      clear hcc
      obtain ⟨q, hq, hqc, hd, hf, hset⟩ := HST.out k _ wr hlt hown.out
      have HSET := Lib.hid hset
      have hwds := HWD.out k hlt
      rw [← hq] at hwds
      have hQ : bnQ xs wd k = flo (wid (fop .quo .f32 (cl .f32 (xs.getD k 0)) (cl .f32 wd))) := rfl
      have hq0 : flt (bnQ xs wd k) (whole c) = false → q = c := by
        intro h; rw [hq]; unfold binK; rw [h]; rfl
      rw [hQ] at hwds hq0
      unfold whole at hwds hq0
      have i1 : (0 : Int) ≤ (q : Int) := by omega
      have i2 : (q : Int) < (c : Int) + 1 := by omega
      have i3 : (0 : Int) ≤ (k : Int) := by omega
      have i4 : (k : Int) < (xs.length : Int) := by omega
      have i6 : IntKind.i64.wrap (q : Int) = (q : Int) := by rw [IntKind.wrap_i64]; omega
      have HW := Lib.hid (show wrap64 ((k : Int) + 1) = (k : Int) + 1 by unfold wrap64; omega)
      generalize (bnTo xs wd c k).getD q 0 = y at *
      generalize xs.getD k 0 = x at *
      cases hfl : flt (flo (wid (fop .quo .f32 (cl .f32 x) (cl .f32 wd)))) (cl .f64 (floatOfInt .f64 c))
      · obtain rfl := hq0 hfl
        have HT := Lib.hid hwds
        clear hwds hset hQ hq0 hq
        go_wp2_with (first | (refine upon_widen _ _ _ some_f32 Try.underlying28 ?_; intro z n hz hzw) | (refine upon_fbin rfl _ _ _ _ ?_; intro z n hz hzw) | (go_at_call 76; refine (c_FloorA _ _ (upz_nan (by rw [hz]; exact (HT.out _ (by assumption)).1))).mono ?_; rintro e w' ⟨r, rfl, hr, nq, rfl⟩))
        go_roundw
        case rel => exact ⟨k + 1, by omega, by have e := HW.out; simp [e], (show Own _ _ _ _ _ from HSET.out _ rfl), grew_draw _ _ (grew_set hg.out (Nat.le_refl _))⟩
        case measure => simp [intOf]; omega
      · have HT := Lib.hid hwds
        clear hwds hset hQ hq0 hq
        go_wp2_with (first | (refine upon_widen _ _ _ some_f32 Try.underlying28 ?_; intro z n hz hzw) | (refine upon_fbin rfl _ _ _ _ ?_; intro z n hz hzw) | (go_at_call 76; refine (c_FloorA _ _ (upz_nan (by rw [hz]; exact (HT.out _ (by assumption)).1))).mono ?_; rintro e w' ⟨r, rfl, hr, nq, rfl⟩; have hcv := fun w => run_convert_float_int (P := Try.prog) w 28 2 .f64 .i64 r (q : Int) some_f64 Try.underlying2 (((HT.out _ (by assumption)).2 _ hz _ hr).2.1 hfl)) | (simp only [hcv]))
        go_roundw
        case rel => exact ⟨k + 1, by omega, by have e := HW.out; simp [e], (show Own _ _ _ _ _ from HSET.out _ rfl), grew_draw _ _ (grew_set hg.out (Nat.le_refl _))⟩
        case measure => simp [intOf]; omega
    · obtain rfl : k = xs.length := by omega
      have i4 : ¬ (xs.length : Int) < (xs.length : Int) := by omega
      have hl := bnTo_len xs wd c xs.length
      have HR := Lib.hid (hown.out.rowAt (lo := w.heap.size) (hi := wr.heap.size) (Nat.le_refl _) hown.out.lt (by rw [hl]; unfold maxLen; omega))
      rw [hl] at HR
      clear hl
      generalize bnTo xs wd c xs.length = BN at *
      go_wp2_with fail
      go_ret2
      exact ⟨_, BN, rfl, HR.out, by rw [List.map_id, HBN.out], hg.out⟩

end Go.Proofs.Ytebhefbpkcpnjaa
