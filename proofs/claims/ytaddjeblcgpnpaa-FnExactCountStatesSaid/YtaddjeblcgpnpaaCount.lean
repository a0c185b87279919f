/-
  CONTRACTS: states, counted.
-/
import Derived.Test.YtaddjeblcgpnpaaLedR
namespace Go.Proofs.Ytaddjeblcgpnpaa
open Go.RowKit Go.Flt
set_option linter.unusedVariables false
set_option maxRecDepth 100000
set_option linter.unusedSimpArgs false

/-- One more in place n. -/
def addAt (h : List Int) (n : Nat) : List Int := h.set n (wrap64 (h.getD n 0 + 1))

def cntTo (xs : List Int) : Nat → List Int
  | 0 => [0, 0, 0, 0, 0]
  | k + 1 => addAt (cntTo xs k) (xs.getD k 0).toNat

theorem cntTo_len (xs : List Int) (k : Nat) : (cntTo xs k).length = 5 := by
  induction k with
  | zero => rfl
  | succ k ih => simp [cntTo, addAt, ih]

def cnts (xs : List Int) : List Int := if states xs then cntTo xs xs.length else []

theorem states_at {xs : List Int} (h : states xs = true) {k : Nat} (hk : k < xs.length) : 0 ≤ xs.getD k 0 ∧ xs.getD k 0 ≤ 4 := by
  unfold states allIn at h
  simp only [Bool.and_eq_true, List.all_eq_true] at h
  have := h.1 (xs.getD k 0) (by simp [hk])
  simpa [within] using this


set_option maxHeartbeats 1000000 in
theorem c_spec.CountStates (A : Option Addr) (n cap K : Nat) (xs : List Int) (w : World) (h : Slc (Value.int .i64) w K A n xs) (hK : K ≤ w.heap.size) (hn : n ≤ 1048576) :
    Calls Try.prog 34 #[.slice A n cap] w (RetRow (Value.int .i64) 2 id (cnts xs) (states xs) w) := by
  cases hst : states xs
  · have HS := Lib.hid h
    have e : cnts xs = [] := by simp [cnts, hst]
    rw [e]
    clear h
    go_enter Try.func34, Try.ntmps34
    go_wp2_with (go_at_call 58; refine (c_spec.l05States _ _ _ K xs _ HS.out hn).mono ?_; rintro e w' ⟨rfl, nq, rfl⟩)
    go_ret2
    exact retRow_nil _ _ (by (show Below _ _ _; (repeat (first | exact Below.refl _ _ | refine ext_below ?_ (by first | omega | (simp only [size_ext, heap_push, Array.size_push, World.heap_drewN]; omega) | (simp; omega)) _ _ | refine below_draws ?_ _ | refine Below.alloc ?_ (by first | omega | (simp; done) | (simp; omega)) _ | refine Below.setCell ?_ (by first | omega | (simp; done) | (simp; omega)) _ | refine below_then (by assumption) (by first | omega | (simp; done) | (simp; omega)) ?_))))
  · obtain rfl := h.1
    have HS := Lib.hid (fun w' h' => Slc.grew (g := Value.int .i64) (w' := w') h hK h')
    have HB := Lib.hid h
    have e : cnts xs = cntTo xs xs.length := by simp [cnts, hst]
    have HE := Lib.hid e
    have HT := Lib.hid (fun k hk => states_at hst (k := k) hk)
    have HM : ∀ w, (Instr.makeSlice 44 (.int .i64 5) (.int .i64 5)).run Try.prog w = .ok (.slice (some ⟨w.heap.size, 0, none⟩) 5 5) (w.alloc (.cells (List.replicate 5 (Value.int .i64 0)).toArray 2)) := fun w => by simpa using mk_int64 5 (by omega) w
    have KK := Lib.hid hK
    clear h e hK
    go_enter Try.func34, Try.ntmps34
    go_wp2_with (go_at_call 58; refine (c_spec.l05States _ _ _ K xs _ HB.out hn).mono ?_; rintro e w' ⟨rfl, nq, rfl⟩)
    have h0 : ∀ nq, Hid (Own (Value.int .i64) 2 ((w.drewN nq).alloc (.cells (List.replicate 5 (Value.int .i64 0)).toArray 2)) w.heap.size (cntTo xs 0)) := fun nq => by
      show Own _ _ _ _ _
      unfold Own
      simp [heap_push, Array.getElem?_push, cntTo]
    have H0 := Lib.hid h0
    clear h0 HM
    go_loopw [12] (fun i wr => ∃ k : Nat, k ≤ xs.length ∧ i = .int .i64 k ∧ Hid (Own (Value.int .i64) 2 wr w.heap.size (cntTo xs k)) ∧ Hid (Grew w wr)) (fun i _ => xs.length - (intOf i).toNat)
    case atStart => exact ⟨0, Nat.zero_le _, rfl, H0.out _, by show Grew _ _; (show Below _ _ _; (repeat (first | exact Below.refl _ _ | refine ext_below ?_ (by first | omega | (simp only [size_ext, heap_push, Array.size_push, World.heap_drewN]; omega) | (simp; omega)) _ _ | refine below_draws ?_ _ | refine Below.alloc ?_ (by first | omega | (simp; done) | (simp; omega)) _ | refine Below.setCell ?_ (by first | omega | (simp; done) | (simp; omega)) _ | refine below_then (by assumption) (by first | omega | (simp; done) | (simp; omega)) ?_)))⟩
    case round =>
      obtain ⟨k, hk, rfl, hown, hg⟩ := hrel
      by_cases hlt : k < xs.length
      · obtain ⟨b, off, rfl, hbK, hc⟩ := (HS.out wr hg.out).2 (by omega)
        have hcell := hc k (xs.getD k 0) (by simp [hlt])
        clear hc
        have hx := HT.out k hlt
        obtain ⟨q, hq⟩ : ∃ q : Nat, xs.getD k 0 = q := ⟨(xs.getD k 0).toNat, by omega⟩
        have hq5 : q < 5 := by omega
        have hlen := cntTo_len xs k
        have hd : wr.cell? ⟨w.heap.size, q, none⟩ = some (.int .i64 ((cntTo xs k).getD q 0)) := hown.out.cell (by simp [show q < (cntTo xs k).length by omega])
        have hf := hown.out.free q
        have HN := Lib.hid (fun v (hv : v = wrap64 ((cntTo xs k).getD q 0 + 1)) => (show Own (Value.int .i64) 2 (wr.setCell ⟨w.heap.size, q, none⟩ (.int .i64 v)) w.heap.size (cntTo xs (k + 1)) by
          have e : cntTo xs (k + 1) = (cntTo xs k).set q v := by rw [hv, show cntTo xs (k + 1) = addAt (cntTo xs k) (xs.getD k 0).toNat from rfl, hq]; rfl
          rw [e]
          exact hown.out.set q v))
        rw [hq] at hcell
        have i1 : (0 : Int) ≤ (q : Int) := by omega
        have i2 : (q : Int) < 5 := by omega
        have i3 : (0 : Int) ≤ (k : Int) := by omega
        have i4 : (k : Int) < (xs.length : Int) := by omega
        have i6 : IntKind.i64.wrap (q : Int) = (q : Int) := by rw [IntKind.wrap_i64]; omega
        have HW := Lib.hid (show wrap64 ((k : Int) + 1) = (k : Int) + 1 by unfold wrap64; omega)
        generalize (cntTo xs k).getD q 0 = x at *
        clear hq hx hlen
        go_wp2_with fail
        go_roundw
        case rel => exact ⟨k + 1, by omega, by have e := HW.out; simp [e], HN.out _ rfl, grew_set hg.out (Nat.le_refl _)⟩
        case measure => simp [intOf]; omega
      · obtain rfl : k = xs.length := by omega
        have i4 : ¬ (xs.length : Int) < (xs.length : Int) := by omega
        go_wp2_with fail
        go_ret2
        exact ⟨_, cntTo xs xs.length, rfl, by
          have h := hown.out.rowAt (lo := w.heap.size) (hi := wr.heap.size) (Nat.le_refl _) hown.out.lt (by rw [cntTo_len]; unfold maxLen; omega)
          rw [cntTo_len] at h
          exact h, by rw [List.map_id, HE.out], hg.out⟩

set_option maxHeartbeats 1000000 in
theorem c_impl.CountStates (A : Option Addr) (n cap K : Nat) (xs : List Int) (w : World) (h : Slc (Value.int .i64) w K A n xs) (hK : K ≤ w.heap.size) (hn : n ≤ 1048576) :
    Calls Try.prog 35 #[.slice A n cap] w (RetRow (Value.int .i64) 2 id (cnts xs) (states xs) w) := by
  cases hst : states xs
  · have HS := Lib.hid h
    have e : cnts xs = [] := by simp [cnts, hst]
    rw [e]
    clear h
    go_enter Try.func35, Try.ntmps35
    go_wp2_with (go_at_call 59; refine (c_impl.areStates _ _ _ K xs _ HS.out hn).mono ?_; rintro e w' ⟨rfl, nq, rfl⟩)
    go_ret2
    exact retRow_nil _ _ (by (show Below _ _ _; (repeat (first | exact Below.refl _ _ | refine ext_below ?_ (by first | omega | (simp only [size_ext, heap_push, Array.size_push, World.heap_drewN]; omega) | (simp; omega)) _ _ | refine below_draws ?_ _ | refine Below.alloc ?_ (by first | omega | (simp; done) | (simp; omega)) _ | refine Below.setCell ?_ (by first | omega | (simp; done) | (simp; omega)) _ | refine below_then (by assumption) (by first | omega | (simp; done) | (simp; omega)) ?_))))
  · obtain rfl := h.1
    have HS := Lib.hid (fun w' h' => Slc.grew (g := Value.int .i64) (w' := w') h hK h')
    have HB := Lib.hid h
    have e : cnts xs = cntTo xs xs.length := by simp [cnts, hst]
    have HE := Lib.hid e
    have HT := Lib.hid (fun k hk => states_at hst (k := k) hk)
    have HM : ∀ w, (Instr.makeSlice 44 (.int .i64 5) (.int .i64 5)).run Try.prog w = .ok (.slice (some ⟨w.heap.size, 0, none⟩) 5 5) (w.alloc (.cells (List.replicate 5 (Value.int .i64 0)).toArray 2)) := fun w => by simpa using mk_int64 5 (by omega) w
    have KK := Lib.hid hK
    clear h e hK
    go_enter Try.func35, Try.ntmps35
    go_wp2_with (go_at_call 59; refine (c_impl.areStates _ _ _ K xs _ HB.out hn).mono ?_; rintro e w' ⟨rfl, nq, rfl⟩)
    have h0 : ∀ nq, Hid (Own (Value.int .i64) 2 ((w.drewN nq).alloc (.cells (List.replicate 5 (Value.int .i64 0)).toArray 2)) w.heap.size (cntTo xs 0)) := fun nq => by
      show Own _ _ _ _ _
      unfold Own
      simp [heap_push, Array.getElem?_push, cntTo]
    have H0 := Lib.hid h0
    clear h0 HM
    go_loopw [13] (fun i wr => ∃ k : Nat, k ≤ xs.length ∧ i = .int .i64 k ∧ Hid (Own (Value.int .i64) 2 wr w.heap.size (cntTo xs k)) ∧ Hid (Grew w wr)) (fun i _ => xs.length - (intOf i).toNat)
    case atStart => exact ⟨0, Nat.zero_le _, rfl, H0.out _, by show Grew _ _; (show Below _ _ _; (repeat (first | exact Below.refl _ _ | refine ext_below ?_ (by first | omega | (simp only [size_ext, heap_push, Array.size_push, World.heap_drewN]; omega) | (simp; omega)) _ _ | refine below_draws ?_ _ | refine Below.alloc ?_ (by first | omega | (simp; done) | (simp; omega)) _ | refine Below.setCell ?_ (by first | omega | (simp; done) | (simp; omega)) _ | refine below_then (by assumption) (by first | omega | (simp; done) | (simp; omega)) ?_)))⟩
    case round =>
      obtain ⟨k, hk, rfl, hown, hg⟩ := hrel
      by_cases hlt : k < xs.length
      · obtain ⟨b, off, rfl, hbK, hc⟩ := (HS.out wr hg.out).2 (by omega)
        have hcell := hc k (xs.getD k 0) (by simp [hlt])
        clear hc
        have hx := HT.out k hlt
        obtain ⟨q, hq⟩ : ∃ q : Nat, xs.getD k 0 = q := ⟨(xs.getD k 0).toNat, by omega⟩
        have hq5 : q < 5 := by omega
        have hlen := cntTo_len xs k
        have hd : wr.cell? ⟨w.heap.size, q, none⟩ = some (.int .i64 ((cntTo xs k).getD q 0)) := hown.out.cell (by simp [show q < (cntTo xs k).length by omega])
        have hf := hown.out.free q
        have HN := Lib.hid (fun v (hv : v = wrap64 ((cntTo xs k).getD q 0 + 1)) => (show Own (Value.int .i64) 2 (wr.setCell ⟨w.heap.size, q, none⟩ (.int .i64 v)) w.heap.size (cntTo xs (k + 1)) by
          have e : cntTo xs (k + 1) = (cntTo xs k).set q v := by rw [hv, show cntTo xs (k + 1) = addAt (cntTo xs k) (xs.getD k 0).toNat from rfl, hq]; rfl
          rw [e]
          exact hown.out.set q v))
        rw [hq] at hcell
        have i1 : (0 : Int) ≤ (q : Int) := by omega
        have i2 : (q : Int) < 5 := by omega
        have i3 : (0 : Int) ≤ (k : Int) := by omega
        have i4 : (k : Int) < (xs.length : Int) := by omega
        have i6 : IntKind.i64.wrap (q : Int) = (q : Int) := by rw [IntKind.wrap_i64]; omega
        have HW := Lib.hid (show wrap64 ((k : Int) + 1) = (k : Int) + 1 by unfold wrap64; omega)
        generalize (cntTo xs k).getD q 0 = x at *
        clear hq hx hlen
        go_wp2_with fail
        go_roundw
        case rel => exact ⟨k + 1, by omega, by have e := HW.out; simp [e], HN.out _ rfl, grew_set hg.out (Nat.le_refl _)⟩
        case measure => simp [intOf]; omega
      · obtain rfl : k = xs.length := by omega
        have i4 : ¬ (xs.length : Int) < (xs.length : Int) := by omega
        go_wp2_with fail
        go_ret2
        exact ⟨_, cntTo xs xs.length, rfl, by
          have h := hown.out.rowAt (lo := w.heap.size) (hi := wr.heap.size) (Nat.le_refl _) hown.out.lt (by rw [cntTo_len]; unfold maxLen; omega)
          rw [cntTo_len] at h
          exact h, by rw [List.map_id, HE.out], hg.out⟩

end Go.Proofs.Ytaddjeblcgpnpaa
