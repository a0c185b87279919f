/-
  CONTRACTS: winds made smooth, the greatest of numbers.
-/
import Derived.Test.YtebhefbpkcpnjaaGust
namespace Go.Proofs.Ytebhefbpkcpnjaa
open Go.RowKit Go.Flt
set_option linter.unusedVariables false
set_option maxRecDepth 100000
set_option linter.unusedSimpArgs false

theorem run_max_float {P : Program} (w : World) (ts : Array TypeId) (t : TypeId) (x y : Nat) (hu : up (cl .f32 x) = true) (hx : isNum (cl .f32 x) = true) (hy : isNum (cl .f32 y) = true) :
    (Builtin.max_ ts t #[.float .f32 x, .float .f32 y]).run P w = .ok (.float .f32 (if flt (cl .f32 x) (cl .f32 y) then y else x)) w := by
  have hn : (FloatKind.f32.decode x).neg = false := by
    rcases cl_or .f32 x with ⟨s, t, _, h⟩ | ⟨h, _⟩
    · rw [h] at hx; cases hx
    · rw [← h]; simp [up] at hu; exact hu.2
  have e : (Builtin.max_ ts t #[.float .f32 x, .float .f32 y]).run P w = (Builtin.max2 (.float .f32 x) (.float .f32 y)).run P w := by simp [Builtin.max_]
  rw [e]
  show Sem.run P (match FloatKind.f32.format.order x y with
    | none => _
    | some .lt => _
    | some .gt => _
    | some .eq => _) w = _
  rw [order_cl]
  unfold flt
  cases ho : (cl .f32 x).order (cl .f32 y) with
  | none =>
    exfalso
    cases hcx : cl .f32 x <;> rw [hcx] at hx ho <;> first | (cases hx; done) | skip
    cases hcy : cl .f32 y <;> rw [hcy] at hy ho <;> first | (cases hy; done) | skip
    simp [Ieee.Datum.order] at ho
  | some o => cases o <;> simp [hn]

theorem ds_at {α β : Type} (f : α → β) (xs : List α) (k : Nat) (a : α) (b : β) (h : k < xs.length) : (xs.map f).getD k b = f (xs.getD k a) := by
  simp [List.getD, List.getElem?_map, List.getElem?_eq_getElem h]

theorem getD_mem {α : Type} (xs : List α) (k : Nat) (a : α) (h : k < xs.length) : xs.getD k a ∈ xs := by
  simp [List.getD, List.getElem?_eq_getElem h]

set_option maxHeartbeats 1000000 in
theorem c_MaxF (A : Option Addr) (n cap K : Nat) (xs : List Nat) (w : World) (h : Fl w K A n xs) (h0 : 0 < n) (hn : n ≤ 1048576) (hu : ∀ x, x ∈ xs → up (cl .f32 x) = true ∧ isNum (cl .f32 x) = true) :
    Calls Try.prog 47 #[.slice A n cap] w fun e w' => ∃ r, e = .returned (.float .f32 r) ∧ cl .f32 r = mstTo (xs.map (cl .f32)) xs.length ∧ ∃ n, w' = w.drewN n := by
  obtain rfl := h.1
  obtain ⟨b, off, rfl, hb, hc⟩ := h.2 h0
  have hfirst : w.cell? ⟨b, off, none⟩ = some (.float .f32 (xs.getD 0 0)) := by simpa using hc 0 (xs.getD 0 0) (by simp [h0])
  have HC := Lib.hid hc
  have hu0 := hu (xs.getD 0 0) (getD_mem _ _ _ h0)
  have HU := Lib.hid hu
  have H1 := Lib.hid (show cl .f32 (xs.getD 0 0) = mstTo (xs.map (cl .f32)) 1 by
    show _ = mx (cl .f32 0) _
    rw [ds_at _ _ _ 0 _ h0]
    exact (mx_zero hu0.1 hu0.2).symm)
  have HU0 := Lib.hid hu0
  clear hc hu hu0 h
  generalize xs.getD 0 0 = x0 at *
  have j4 : (0 : Int) < (xs.length : Int) := by omega
  have j5 : ((xs.length : Int) < 1) = False := by simp; omega
  go_enter Try.func47, Try.ntmps47
  go_wp2_with fail
  go_loopw [3, 4] (fun m i wr => ∃ k z : Nat, 1 ≤ k ∧ k ≤ xs.length ∧ i = .int .i64 k ∧ m = .float .f32 z ∧ Hid (cl .f32 z = mstTo (xs.map (cl .f32)) k) ∧ Hid (up (cl .f32 z) = true ∧ isNum (cl .f32 z) = true) ∧ ∃ n, wr = w.drewN n) (fun _ i _ => xs.length - (intOf i).toNat)
  case atStart => exact ⟨1, _, Nat.le_refl _, by omega, rfl, rfl, H1, HU0, by (first | exact ⟨_, rfl⟩ | exact ⟨0, rfl⟩ | exact ⟨_, World.drewN_drewN _ _ _⟩ | (simp only [World.drewN_drewN]; exact ⟨_, rfl⟩))⟩
  case round =>
    obtain ⟨k, z, hk1, hk, rfl, rfl, hz, hzu, m, rfl⟩ := hrel
    by_cases hlt : k < xs.length
    · have hcell := HC.out k (xs.getD k 0) (by simp [hlt])
      have i3 : (0 : Int) ≤ (k : Int) := by omega
      have i4 : (k : Int) < (xs.length : Int) := by omega
      have hx := HU.out (xs.getD k 0) (getD_mem _ _ _ hlt)
      have HX := Lib.hid hx
      have hmx := fun (w : World) (ts : Array TypeId) (t : TypeId) => run_max_float (P := Try.prog) w ts t z (xs.getD k 0) hzu.out.1 hzu.out.2 hx.2
      have HS := Lib.hid (show cl .f32 (if flt (cl .f32 z) (cl .f32 (xs.getD k 0)) then xs.getD k 0 else z) = mstTo (xs.map (cl .f32)) (k + 1) by
        show _ = mx (mstTo (xs.map (cl .f32)) k) _
        rw [← hz.out, ds_at _ _ _ 0 _ hlt]
        unfold mx
        split <;> rfl)
      have HV := Lib.hid (show up (cl .f32 (if flt (cl .f32 z) (cl .f32 (xs.getD k 0)) then xs.getD k 0 else z)) = true ∧ isNum (cl .f32 (if flt (cl .f32 z) (cl .f32 (xs.getD k 0)) then xs.getD k 0 else z)) = true by
        split
        · exact hx
        · exact hzu.out)
      clear hx
      generalize (if flt (cl .f32 z) (cl .f32 (xs.getD k 0)) then xs.getD k 0 else z) = r at *
      generalize xs.getD k 0 = x at *
      go_wp2_with fail
      go_roundw
      case rel => exact ⟨k + 1, _, by omega, by omega, by go_num, rfl, HS, HV, by (first | exact ⟨_, rfl⟩ | exact ⟨0, rfl⟩ | exact ⟨_, World.drewN_drewN _ _ _⟩ | (simp only [World.drewN_drewN]; exact ⟨_, rfl⟩))⟩
      case measure => simp [intOf]; omega
    · obtain rfl : k = xs.length := by omega
      go_wp2_with fail
      go_ret
      exact ⟨_, rfl, hz.out, by (first | exact ⟨_, rfl⟩ | exact ⟨0, rfl⟩ | exact ⟨_, World.drewN_drewN _ _ _⟩ | (simp only [World.drewN_drewN]; exact ⟨_, rfl⟩))⟩

end Go.Proofs.Ytebhefbpkcpnjaa
