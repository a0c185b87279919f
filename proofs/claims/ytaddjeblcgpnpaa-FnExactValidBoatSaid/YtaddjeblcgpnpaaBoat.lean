/-
  CONTRACTS: boats.
-/
import Derived.Test.YtaddjeblcgpnpaaSl
namespace Go.Proofs.Ytaddjeblcgpnpaa
open Go.RowKit Go.Flt

theorem c_toBoat (a h : Nat) (w : World) : Calls Try.prog 16 #[.agg #[.float .f32 a, .float .f32 h]] w fun e w' => e = .returned (.agg #[.float .f32 a, .float .f32 h]) ∧ Below w.heap.size w w' := by
  go_enter Try.func16, Try.ntmps16
  go_wp2_with fail
  exact bodyPost_ret (v := .agg #[.float .f32 a, .float .f32 h]) (by simp [results, Try.results16, go_sem]) rfl ⟨rfl, by (repeat (first | exact Below.refl _ _ | refine below_draws ?_ _ | refine Below.alloc ?_ (by first | omega | (simp; done) | (simp; omega)) _ | refine Below.setCell ?_ (by first | omega | (simp; done) | (simp; omega)) _ | refine below_then (by assumption) (by first | omega | (simp; done) | (simp; omega)) ?_))⟩

def validBoat (a h : Nat) : Bool := least (cl .f32 a) && above (cl .f32 h)

theorem c_l06Boat (a h : Nat) (b off : Nat) (w : World) (h0 : w.cell? ⟨b, off, none⟩ = some (.float .f32 a)) (h1 : w.cell? ⟨b, off + 1, none⟩ = some (.float .f32 h)) :
    Calls Try.prog 47 #[.pointer (some ⟨b, off, none⟩)] w fun e w' => e = .returned (.bool (validBoat a h)) ∧ ∃ n, w' = w.drewN n := by
  by_cases hl : least (cl .f32 a) = true
  all_goals
    go_enter Try.func47, Try.ntmps47
    go_wp2_with (first | (go_at_call 67; refine (c_l02Least _ _).mono ?_; rintro e w' ⟨rfl, nq, rfl⟩) | (go_at_call 64; refine (c_l02Above _ _).mono ?_; rintro e w' ⟨rfl, nq, rfl⟩))
    go_ret
    exact ⟨by simp [validBoat, hl], _, rfl⟩

theorem c_specValidBoat (a h : Nat) (w : World) : Calls Try.prog 15 #[.agg #[.float .f32 a, .float .f32 h]] w fun e w' => e = .returned (.bool (validBoat a h)) ∧ Below w.heap.size w w' := by
  go_enter Try.func15, Try.ntmps15
  go_wp2_with (go_at_call 47; refine (c_l06Boat a h _ _ _ ?_ ?_).mono ?_; (simp); (simp); rintro e w' ⟨rfl, nq, rfl⟩)
  go_ret
  exact ⟨rfl, by (repeat (first | exact Below.refl _ _ | refine below_draws ?_ _ | refine Below.alloc ?_ (by first | omega | (simp; done) | (simp; omega)) _ | refine Below.setCell ?_ (by first | omega | (simp; done) | (simp; omega)) _ | refine below_then (by assumption) (by first | omega | (simp; done) | (simp; omega)) ?_))⟩


theorem c_implValidBoat (a h : Nat) (w : World) : Calls Try.prog 17 #[.agg #[.float .f32 a, .float .f32 h]] w fun e w' => e = .returned (.bool (validBoat a h)) ∧ Below w.heap.size w w' := by
  by_cases hl : least (cl .f32 a) = true
  all_goals
    go_enter Try.func17, Try.ntmps17
    go_wp2_with (first | (go_at_call 48; refine (c_isLeast _ _).mono ?_; rintro e w' ⟨rfl, nq, rfl⟩) | (go_at_call 49; refine (c_arePositive _ 1 _ [h] _ (fl_new _ [h] _ _ _ (by simp) rfl) (by simp [maxLen])).mono ?_; rintro e w' ⟨rfl, nq, rfl⟩))
    go_ret
    exact ⟨by simp [validBoat, hl, above_not], by (repeat (first | exact Below.refl _ _ | refine below_draws ?_ _ | refine Below.alloc ?_ (by first | omega | (simp; done) | (simp; omega)) _ | refine Below.setCell ?_ (by first | omega | (simp; done) | (simp; omega)) _ | refine below_then (by assumption) (by first | omega | (simp; done) | (simp; omega)) ?_))⟩

theorem walk_ValidBoat (a h : Nat) (w : World) (_ : fits a) (_ : fits h) : Calls Try.prog 3 #[.agg #[.float .f32 a, .float .f32 h]] w fun e w' => e = .returned (.bool true) ∧ Below w.heap.size w w' := by
  go_enter Try.func3, Try.ntmps3
  go_wp2_with (first | (go_at_call 16; refine (c_toBoat _ _ _).mono ?_; rintro e w' ⟨rfl, hbw⟩; obtain ⟨hbc, hbf⟩ := bcell hbw; have hbs := hbw.size; try simp at hbs; try (have hz0 : w.heap.size < w'.heap.size := by omega); try (have hz1 : w.heap.size + 1 < w'.heap.size := by omega); try (have hz2 : w.heap.size + 1 + 1 < w'.heap.size := by omega)) | (go_at_call 15; refine (c_specValidBoat _ _ _).mono ?_; rintro e w' ⟨rfl, hbw⟩; obtain ⟨hbc, hbf⟩ := bcell hbw; have hbs := hbw.size; try simp at hbs; try (have hz0 : w.heap.size < w'.heap.size := by omega); try (have hz1 : w.heap.size + 1 < w'.heap.size := by omega); try (have hz2 : w.heap.size + 1 + 1 < w'.heap.size := by omega)) | (go_at_call 17; refine (c_implValidBoat _ _ _).mono ?_; rintro e w' ⟨rfl, hbw⟩; obtain ⟨hbc, hbf⟩ := bcell hbw; have hbs := hbw.size; try simp at hbs; try (have hz0 : w.heap.size < w'.heap.size := by omega); try (have hz1 : w.heap.size + 1 < w'.heap.size := by omega); try (have hz2 : w.heap.size + 1 + 1 < w'.heap.size := by omega)))
  go_ret
  exact ⟨rfl, by (repeat (first | exact Below.refl _ _ | refine below_draws ?_ _ | refine Below.alloc ?_ (by first | omega | (simp; done) | (simp; omega)) _ | refine Below.setCell ?_ (by first | omega | (simp; done) | (simp; omega)) _ | refine below_then (by assumption) (by first | omega | (simp; done) | (simp; omega)) ?_))⟩
end Go.Proofs.Ytaddjeblcgpnpaa
