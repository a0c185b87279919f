/-
  CONTRACTS: when a farm is valid.
-/
import Derived.Test.YtlakmogclcpgdaaConcat
import Derived.Test.YtlakmogclcpgdaaSl2
import Derived.Test.YtlakmogclcpgdaaFarm
import Derived.Test.YtlakmogclcpgdaaSameFs
namespace Go.Proofs.Ytlakmogclcpgdaa
open Go.RowKit Go.Flt
set_option linter.unusedVariables false
set_option maxRecDepth 100000
set_option linter.unusedSimpArgs false

/-- A coordinate. -/
def near (x : Nat) : Bool := fromTo (cl .f32 x) (cl .f32 3351465984) (cl .f32 1203982336)

def vFarm (xs ys : List Nat) (r d s : Nat) : Bool :=
  decide (1 ≤ xs.length) && decide (xs.length ≤ 12) && decide (ys.length = xs.length) && above (cl .f32 r) && above (cl .f32 s) && !flt (cl .f32 1148846080) (cl .f32 r) && fromTo (cl .f32 d) (cl .f32 0) (cl .f32 1056964608) && xs.all near && ys.all near

theorem vFarm_no {xs ys : List Nat} {r d s : Nat} (h : decide (1 ≤ xs.length) = false ∨ decide (xs.length ≤ 12) = false ∨ decide (ys.length = xs.length) = false ∨ above (cl .f32 r) = false ∨ above (cl .f32 s) = false ∨ flt (cl .f32 1148846080) (cl .f32 r) = true ∨
    fromTo (cl .f32 d) (cl .f32 0) (cl .f32 1056964608) = false ∨ xs.all near = false ∨ ys.all near = false) : vFarm xs ys r d s = false := by
  unfold vFarm
  rcases h with h | h | h | h | h | h | h | h | h <;> simp only [h, Bool.false_and, Bool.and_false, Bool.not_true]

theorem vFarm_at {xs ys : List Nat} {r d s : Nat} (h1 : 1 ≤ xs.length) (h2 : xs.length ≤ 12) (h3 : ys.length = xs.length) (h4 : above (cl .f32 r) = true) (h5 : above (cl .f32 s) = true) (h6 : flt (cl .f32 1148846080) (cl .f32 r) = false) (h7 : fromTo (cl .f32 d) (cl .f32 0) (cl .f32 1056964608) = true) :
    vFarm xs ys r d s = (xs.all near && ys.all near) := by
  unfold vFarm
  simp [h1, h2, h3, h4, h5, h6, h7]

theorem c_pos2 (r s cap b : Nat) (w : World) (h : Fl w (b + 1) (some ⟨b, 0, none⟩) 2 [r, s]) : Calls Try.prog 74 #[.slice (some ⟨b, 0, none⟩) 2 cap] w fun e w' => e = .returned (.bool (above (cl .f32 r) && above (cl .f32 s))) ∧ ∃ n, w' = w.drewN n := by
  have := c_arePositive _ cap _ _ w h (by simp [maxLen])
  have e : (![r, s].any fun x => !fin (cl .f32 x) || fle (cl .f32 x) (cl .f32 0)) = (above (cl .f32 r) && above (cl .f32 s)) := by
    rw [← above_not, ← above_not]
    simp [Bool.not_or]
  rw [e] at this
  exact this

set_option maxHeartbeats 2000000 in
theorem c_implValidFarm (A C : Option Addr) (n cA m cC K : Nat) (xs ys : List Nat) (r d s : Nat) (w : World) (hx : Fl w K A n xs) (hy : Fl w K C m ys) (hK : K ≤ w.heap.size) :
    Calls Try.prog 48 #[.agg #[.slice A n cA, .slice C m cC, .float .f32 r, .float .f32 d, .float .f32 s]] w fun e w' => e = .returned (.bool (vFarm xs ys r d s)) ∧ Grew w w' := by
  obtain rfl := hx.1
  obtain rfl := hy.1
  have HX := Lib.hid (fun w' h => Slc.grew (g := Value.float .f32) (w' := w') hx hK h)
  have HY := Lib.hid (fun w' h => Slc.grew (g := Value.float .f32) (w' := w') hy hK h)
  clear hx hy
  have HP := Lib.hid (c_pos2 r s)
  cases c1 : decide ((xs.length : Int) < 1)
  case true =>
    have hv := vFarm_no (xs := xs) (ys := ys) (r := r) (d := d) (s := s) (.inl (decide_eq_false (by have := of_decide_eq_true c1; omega)))
    have HV := Lib.hid hv
    clear hv
    go_enter Try.func48, Try.ntmps48
    go_wp2_with fail
    go_ret
    exact ⟨by rw [HV.out]; rfl, by (show Below _ _ _; (repeat (first | exact Below.refl _ _ | refine ext_below ?_ (by first | omega | (simp only [size_ext, heap_push, Array.size_push, World.heap_drewN]; omega) | (simp; omega)) _ _ | refine below_draws ?_ _ | refine Below.alloc ?_ (by first | omega | (simp; done) | (simp; omega)) _ | refine Below.setCell ?_ (by first | omega | (simp; done) | (simp; omega)) _ | refine below_then (by assumption) (by first | omega | (simp; done) | (simp; omega)) ?_)))⟩
  cases c2 : decide ((12 : Int) < (xs.length : Int))
  case true =>
    have hv := vFarm_no (xs := xs) (ys := ys) (r := r) (d := d) (s := s) (.inr (.inl (by simp at c2 ⊢; omega)))
    have HV := Lib.hid hv
    clear hv
    go_enter Try.func48, Try.ntmps48
    go_wp2_with fail
    go_ret
    exact ⟨by rw [HV.out]; rfl, by (show Below _ _ _; (repeat (first | exact Below.refl _ _ | refine ext_below ?_ (by first | omega | (simp only [size_ext, heap_push, Array.size_push, World.heap_drewN]; omega) | (simp; omega)) _ _ | refine below_draws ?_ _ | refine Below.alloc ?_ (by first | omega | (simp; done) | (simp; omega)) _ | refine Below.setCell ?_ (by first | omega | (simp; done) | (simp; omega)) _ | refine below_then (by assumption) (by first | omega | (simp; done) | (simp; omega)) ?_)))⟩
  cases c3 : ((ys.length : Int) != (xs.length : Int))
  case true =>
    have hv := vFarm_no (xs := xs) (ys := ys) (r := r) (d := d) (s := s) (.inr (.inr (.inl (by simp at c3 ⊢; omega))))
    have HV := Lib.hid hv
    clear hv
    go_enter Try.func48, Try.ntmps48
    go_wp2_with fail
    go_ret
    exact ⟨by rw [HV.out]; rfl, by (show Below _ _ _; (repeat (first | exact Below.refl _ _ | refine ext_below ?_ (by first | omega | (simp only [size_ext, heap_push, Array.size_push, World.heap_drewN]; omega) | (simp; omega)) _ _ | refine below_draws ?_ _ | refine Below.alloc ?_ (by first | omega | (simp; done) | (simp; omega)) _ | refine Below.setCell ?_ (by first | omega | (simp; done) | (simp; omega)) _ | refine below_then (by assumption) (by first | omega | (simp; done) | (simp; omega)) ?_)))⟩
  have k1 : 1 ≤ xs.length := by simp at c1; omega
  have k2 : xs.length ≤ 12 := by simp at c2; omega
  have k3 : ys.length = xs.length := by simp at c3; omega
  cases c4 : (above (cl .f32 r) && above (cl .f32 s))
  case false =>
    have hv := vFarm_no (xs := xs) (ys := ys) (r := r) (d := d) (s := s) (by
      rw [Bool.and_eq_false_iff] at c4
      rcases c4 with h | h
      · exact .inr (.inr (.inr (.inl h)))
      · exact .inr (.inr (.inr (.inr (.inl h)))))
    have HV := Lib.hid hv
    clear hv
    go_enter Try.func48, Try.ntmps48
    go_wp2_with (go_at_call 74; refine (HP.out _ _ _ (fl_new _ [r, s] _ _ _ (by simp) rfl)).mono ?_; rintro e w' ⟨rfl, nq, rfl⟩)
    go_ret
    exact ⟨by rw [HV.out]; rfl, by (show Below _ _ _; (repeat (first | exact Below.refl _ _ | refine ext_below ?_ (by first | omega | (simp only [size_ext, heap_push, Array.size_push, World.heap_drewN]; omega) | (simp; omega)) _ _ | refine below_draws ?_ _ | refine Below.alloc ?_ (by first | omega | (simp; done) | (simp; omega)) _ | refine Below.setCell ?_ (by first | omega | (simp; done) | (simp; omega)) _ | refine below_then (by assumption) (by first | omega | (simp; done) | (simp; omega)) ?_)))⟩
  have k4 : above (cl .f32 r) = true ∧ above (cl .f32 s) = true := by simpa using c4
  have K4 := Lib.hid k4
  clear k4
  cases c5 : flt (cl .f32 1148846080) (cl .f32 r)
  case true =>
    have hv := vFarm_no (xs := xs) (ys := ys) (r := r) (d := d) (s := s) (.inr (.inr (.inr (.inr (.inr (.inl c5))))))
    have HV := Lib.hid hv
    clear hv
    go_enter Try.func48, Try.ntmps48
    go_wp2_with (go_at_call 74; refine (HP.out _ _ _ (fl_new _ [r, s] _ _ _ (by simp) rfl)).mono ?_; rintro e w' ⟨rfl, nq, rfl⟩)
    go_ret
    exact ⟨by rw [HV.out]; rfl, by (show Below _ _ _; (repeat (first | exact Below.refl _ _ | refine ext_below ?_ (by first | omega | (simp only [size_ext, heap_push, Array.size_push, World.heap_drewN]; omega) | (simp; omega)) _ _ | refine below_draws ?_ _ | refine Below.alloc ?_ (by first | omega | (simp; done) | (simp; omega)) _ | refine Below.setCell ?_ (by first | omega | (simp; done) | (simp; omega)) _ | refine below_then (by assumption) (by first | omega | (simp; done) | (simp; omega)) ?_)))⟩
  cases c6 : fromTo (cl .f32 d) (cl .f32 0) (cl .f32 1056964608)
  case false =>
    have hv := vFarm_no (xs := xs) (ys := ys) (r := r) (d := d) (s := s) (.inr (.inr (.inr (.inr (.inr (.inr (.inl c6)))))))
    have HV := Lib.hid hv
    clear hv
    go_enter Try.func48, Try.ntmps48
    go_wp2_with (first | (go_at_call 75; refine (c_isFromTo _ _ _ _).mono ?_; rintro e w' ⟨rfl, nq, rfl⟩) | (go_at_call 74; refine (HP.out _ _ _ (fl_new _ [r, s] _ _ _ (by simp) rfl)).mono ?_; rintro e w' ⟨rfl, nq, rfl⟩))
    go_ret
    exact ⟨by rw [HV.out]; rfl, by (show Below _ _ _; (repeat (first | exact Below.refl _ _ | refine ext_below ?_ (by first | omega | (simp only [size_ext, heap_push, Array.size_push, World.heap_drewN]; omega) | (simp; omega)) _ _ | refine below_draws ?_ _ | refine Below.alloc ?_ (by first | omega | (simp; done) | (simp; omega)) _ | refine Below.setCell ?_ (by first | omega | (simp; done) | (simp; omega)) _ | refine below_then (by assumption) (by first | omega | (simp; done) | (simp; omega)) ?_)))⟩
  have HY3 : Hid (∀ w', Grew w w' → Fl w' K C xs.length ys) := fun w' h => by
    have := HY.out w' h
    rwa [k3] at this
  have HV := Lib.hid (vFarm_at k1 k2 k3 K4.out.1 K4.out.2 c5 c6)
  go_enter Try.func48, Try.ntmps48
  go_wp2_with (first | (go_at_call 75; refine (c_isFromTo _ _ _ _).mono ?_; rintro e w' ⟨rfl, nq, rfl⟩) | (go_at_call 74; refine (HP.out _ _ _ (fl_new _ [r, s] _ _ _ (by simp) rfl)).mono ?_; rintro e w' ⟨rfl, nq, rfl⟩))
  refine Calls.mono (c_Concat _ _ A C xs.length cA xs.length cC K xs ys _ ?h1 ?h2 ?h3 ?h4 ?h5 ?h6 (by omega) (by omega) (by omega) (by omega)) ?_
  case h1 => simp [go_sem]
  case h2 => simp [go_sem]
  case h3 => simp
  case h4 => exact HX.out _ (by (show Below _ _ _; (repeat (first | exact Below.refl _ _ | refine ext_below ?_ (by first | omega | (simp only [size_ext, heap_push, Array.size_push, World.heap_drewN]; omega) | (simp; omega)) _ _ | refine below_draws ?_ _ | refine Below.alloc ?_ (by first | omega | (simp; done) | (simp; omega)) _ | refine Below.setCell ?_ (by first | omega | (simp; done) | (simp; omega)) _ | refine below_then (by assumption) (by first | omega | (simp; done) | (simp; omega)) ?_))))
  case h5 => exact HY3.out _ (by (show Below _ _ _; (repeat (first | exact Below.refl _ _ | refine ext_below ?_ (by first | omega | (simp only [size_ext, heap_push, Array.size_push, World.heap_drewN]; omega) | (simp; omega)) _ _ | refine below_draws ?_ _ | refine Below.alloc ?_ (by first | omega | (simp; done) | (simp; omega)) _ | refine Below.setCell ?_ (by first | omega | (simp; done) | (simp; omega)) _ | refine below_then (by assumption) (by first | omega | (simp; done) | (simp; omega)) ?_))))
  case h6 => simp; omega
  rintro e w1 ⟨v1, rfl, hr1, hg1⟩
  have G1 := Lib.hid (grew_trans (show Grew w _ by (show Below _ _ _; (repeat (first | exact Below.refl _ _ | refine ext_below ?_ (by first | omega | (simp only [size_ext, heap_push, Array.size_push, World.heap_drewN]; omega) | (simp; omega)) _ _ | refine below_draws ?_ _ | refine Below.alloc ?_ (by first | omega | (simp; done) | (simp; omega)) _ | refine Below.setCell ?_ (by first | omega | (simp; done) | (simp; omega)) _ | refine below_then (by assumption) (by first | omega | (simp; done) | (simp; omega)) ?_)))) hg1)
  obtain ⟨zs, hzs⟩ : ∃ zs, zs = xs ++ ys := ⟨_, rfl⟩
  rw [← hzs] at hr1
  have hzl : zs.length ≤ 1048576 := by rw [hzs]; simp; omega
  have HZ := Lib.hid hzs
  clear hzs
  obtain ⟨A1, c1, rfl, hs1⟩ := hr1.slc
  have S1 := Lib.hid hs1
  clear hr1 hs1 hg1
  go_wp2_with (go_at_call 76; refine (c_ContainsFunc4 _ _ _ zs _ S1.out (by unfold maxLen; omega)).mono ?_; rintro e w' ⟨rfl, nq, rfl⟩)
  go_ret
  exact ⟨by
    have e : (!zs.any fun x => !fromTo (cl .f32 x) (cl .f32 3351465984) (cl .f32 1203982336)) = (xs.all near && ys.all near) := by
      rw [HZ.out, List.any_append, Bool.not_or, List.all_eq_not_any_not, List.all_eq_not_any_not]
      rfl
    rw [HV.out, ← e]
    rfl, grew_draw _ _ G1.out⟩

theorem c_l06Near (x : Nat) (w : World) : Calls Try.prog 73 #[.float .f32 x] w fun e w' => e = .returned (.bool (near x)) ∧ ∃ n, w' = w.drewN n := by
  go_enter Try.func73, Try.ntmps73
  go_wp2_with fail
  all_goals
    go_ret
    exact ⟨by simp [near, fromTo, fge, fle, *], 0, rfl⟩

theorem near_no {xs ys : List Nat} {r d s k : Nat} (hk : k < xs.length) (hl : ys.length = xs.length) (h : (near (xs.getD k 0) && near (ys.getD k 0)) = false) : vFarm xs ys r d s = false := by
  rw [Bool.and_eq_false_iff] at h
  rcases h with h | h
  · refine vFarm_no (.inr (.inr (.inr (.inr (.inr (.inr (.inr (.inl ?_))))))))
    rw [List.all_eq_false]
    exact ⟨xs[k], List.getElem_mem hk, by simpa [List.getD, hk] using h⟩
  · refine vFarm_no (.inr (.inr (.inr (.inr (.inr (.inr (.inr (.inr ?_))))))))
    rw [List.all_eq_false]
    have hk' : k < ys.length := by omega
    exact ⟨ys[k], List.getElem_mem hk', by simpa [List.getD, hk'] using h⟩

theorem near_all {xs ys : List Nat} (hl : ys.length = xs.length) (h : ∀ k, k < xs.length → near (xs.getD k 0) = true ∧ near (ys.getD k 0) = true) : (xs.all near && ys.all near) = true := by
  rw [Bool.and_eq_true, List.all_eq_true, List.all_eq_true]
  constructor
  · intro x hx
    obtain ⟨k, hk, rfl⟩ := List.getElem_of_mem hx
    simpa [List.getD, hk] using (h k hk).1
  · intro x hx
    obtain ⟨k, hk, rfl⟩ := List.getElem_of_mem hx
    simpa [List.getD, hk] using (h k (by omega)).2

set_option maxHeartbeats 4000000 in
theorem c_l06Is (b : Nat) (A C : Option Addr) (n cA m cC K : Nat) (xs ys : List Nat) (r d s : Nat) (w : World) (hf : FmAt w b (.slice A n cA) (.slice C m cC) r d s) (hx : Fl w K A n xs) (hy : Fl w K C m ys) (hn : n ≤ maxLen) (hm : m ≤ maxLen) :
    Calls Try.prog 45 #[.pointer (some ⟨b, 0, none⟩)] w fun e w' => e = .returned (.bool (vFarm xs ys r d s)) ∧ ∃ n, w' = w.drewN n := by
  obtain rfl := hx.1
  obtain rfl := hy.1
  have HX := Lib.hid hx
  have HY := Lib.hid hy
  clear hx hy
  obtain ⟨p0, p1, p2, p3, p4⟩ := hf
  cases c1 : decide ((xs.length : Int) < 1)
  case true =>
    have hv := vFarm_no (xs := xs) (ys := ys) (r := r) (d := d) (s := s) (.inl (decide_eq_false (by have := of_decide_eq_true c1; omega)))
    have HV := Lib.hid hv
    clear hv
    go_enter Try.func45, Try.ntmps45
    go_wp2_with fail
    go_ret
    exact ⟨by rw [HV.out]; rfl, by (first | exact ⟨_, rfl⟩ | exact ⟨0, rfl⟩ | exact ⟨_, World.drewN_drewN _ _ _⟩ | (simp only [World.drewN_drewN]; exact ⟨_, rfl⟩))⟩
  cases c2 : decide ((12 : Int) < (xs.length : Int))
  case true =>
    have hv := vFarm_no (xs := xs) (ys := ys) (r := r) (d := d) (s := s) (.inr (.inl (by simp at c2 ⊢; omega)))
    have HV := Lib.hid hv
    clear hv
    go_enter Try.func45, Try.ntmps45
    go_wp2_with fail
    go_ret
    exact ⟨by rw [HV.out]; rfl, by (first | exact ⟨_, rfl⟩ | exact ⟨0, rfl⟩ | exact ⟨_, World.drewN_drewN _ _ _⟩ | (simp only [World.drewN_drewN]; exact ⟨_, rfl⟩))⟩
  cases c3 : ((ys.length : Int) != (xs.length : Int))
  case true =>
    have hv := vFarm_no (xs := xs) (ys := ys) (r := r) (d := d) (s := s) (.inr (.inr (.inl (by simp at c3 ⊢; omega))))
    have HV := Lib.hid hv
    clear hv
    go_enter Try.func45, Try.ntmps45
    go_wp2_with fail
    go_ret
    exact ⟨by rw [HV.out]; rfl, by (first | exact ⟨_, rfl⟩ | exact ⟨0, rfl⟩ | exact ⟨_, World.drewN_drewN _ _ _⟩ | (simp only [World.drewN_drewN]; exact ⟨_, rfl⟩))⟩
  have k1 : 1 ≤ xs.length := by simp at c1; omega
  have k2 : xs.length ≤ 12 := by simp at c2; omega
  have k3 : ys.length = xs.length := by simp at c3; omega
  have K3 := Lib.hid k3
  cases c4 : above (cl .f32 r)
  case false =>
    have HV := Lib.hid (vFarm_no (xs := xs) (ys := ys) (r := r) (d := d) (s := s) (.inr (.inr (.inr (.inl c4)))))
    go_enter Try.func45, Try.ntmps45
    go_wp2_with (go_at_call 72; refine (c_l02Above _ _).mono ?_; rintro e w' ⟨rfl, nq, rfl⟩)
    go_ret
    exact ⟨by rw [HV.out]; rfl, by (first | exact ⟨_, rfl⟩ | exact ⟨0, rfl⟩ | exact ⟨_, World.drewN_drewN _ _ _⟩ | (simp only [World.drewN_drewN]; exact ⟨_, rfl⟩))⟩
  cases c5 : flt (cl .f32 1148846080) (cl .f32 r)
  case true =>
    have HV := Lib.hid (vFarm_no (xs := xs) (ys := ys) (r := r) (d := d) (s := s) (.inr (.inr (.inr (.inr (.inr (.inl c5)))))))
    go_enter Try.func45, Try.ntmps45
    go_wp2_with (go_at_call 72; refine (c_l02Above _ _).mono ?_; rintro e w' ⟨rfl, nq, rfl⟩)
    go_ret
    exact ⟨by rw [HV.out]; rfl, by (first | exact ⟨_, rfl⟩ | exact ⟨0, rfl⟩ | exact ⟨_, World.drewN_drewN _ _ _⟩ | (simp only [World.drewN_drewN]; exact ⟨_, rfl⟩))⟩
  cases c6 : above (cl .f32 s)
  case false =>
    have HV := Lib.hid (vFarm_no (xs := xs) (ys := ys) (r := r) (d := d) (s := s) (.inr (.inr (.inr (.inr (.inl c6))))))
    go_enter Try.func45, Try.ntmps45
    go_wp2_with (go_at_call 72; refine (c_l02Above _ _).mono ?_; rintro e w' ⟨rfl, nq, rfl⟩)
    go_ret
    exact ⟨by rw [HV.out]; rfl, by (first | exact ⟨_, rfl⟩ | exact ⟨0, rfl⟩ | exact ⟨_, World.drewN_drewN _ _ _⟩ | (simp only [World.drewN_drewN]; exact ⟨_, rfl⟩))⟩
  by_cases c7 : fromTo (cl .f32 d) (cl .f32 0) (cl .f32 1056964608) = true
  · have HV := Lib.hid (vFarm_at (d := d) k1 k2 k3 c4 c6 c5 c7)
    unfold fromTo fge fle at c7
    simp only [Bool.and_eq_true, Bool.or_eq_true] at c7
    obtain ⟨h1, h2⟩ := c7
    have h1' : flt (cl .f32 0) (cl .f32 d) = true ∨ (flt (cl .f32 0) (cl .f32 d) = false ∧ feq (cl .f32 d) (cl .f32 0) = true) := by
      cases h : flt (cl .f32 0) (cl .f32 d)
      · rw [h] at h1; exact .inr ⟨rfl, by simpa using h1⟩
      · exact .inl rfl
    have h2' : flt (cl .f32 d) (cl .f32 1056964608) = true ∨ (flt (cl .f32 d) (cl .f32 1056964608) = false ∧ feq (cl .f32 d) (cl .f32 1056964608) = true) := by
      cases h : flt (cl .f32 d) (cl .f32 1056964608)
      · rw [h] at h2; exact .inr ⟨rfl, by simpa using h2⟩
      · exact .inl rfl
    clear h1 h2 hn hm
    rcases h1' with h1 | ⟨h1, h1'⟩ <;> rcases h2' with h2 | ⟨h2, h2'⟩
    all_goals
      go_enter Try.func45, Try.ntmps45
      go_wp2_with (go_at_call 72; refine (c_l02Above _ _).mono ?_; rintro e w' ⟨rfl, nq, rfl⟩)
      go_loopw [4] (fun i wr => ∃ k : Nat, k ≤ xs.length ∧ i = .int .i64 k ∧ Hid (∀ j, j < k → near (xs.getD j 0) = true ∧ near (ys.getD j 0) = true) ∧ ∃ m, wr = w.drewN m) (fun i _ => xs.length - (intOf i).toNat)
      case atStart => exact ⟨0, Nat.zero_le _, rfl, fun _ h => absurd h (by omega), by (first | exact ⟨_, rfl⟩ | exact ⟨0, rfl⟩ | exact ⟨_, World.drewN_drewN _ _ _⟩ | (simp only [World.drewN_drewN]; exact ⟨_, rfl⟩))⟩
      case round =>
        obtain ⟨k, hk, rfl, hall, m, rfl⟩ := hrel
        by_cases hlt : k < xs.length
        · obtain ⟨bx, ox, rfl, _, hc⟩ := HX.out.2 (by omega)
          obtain ⟨by', oy, rfl, _, hc'⟩ := HY.out.2 (by omega)
          have hc1 := hc k (xs.getD k 0) (by simp [hlt])
          have hc2 := hc' k (ys.getD k 0) (by simp [show k < ys.length by omega])
          clear hc hc'
          have i3 : (0 : Int) ≤ (k : Int) := by omega
          have i4 : (k : Int) < (xs.length : Int) := by omega
          have HN := Lib.hid (fun h => near_no (xs := xs) (ys := ys) (r := r) (d := d) (s := s) hlt K3.out h)
          have HA := Lib.hid (fun (h : near (xs.getD k 0) = true ∧ near (ys.getD k 0) = true) => (fun j (hj : j < k + 1) => (by
            rcases Nat.lt_or_ge j k with h' | h'
            · exact hall.out j h'
            · obtain rfl : j = k := by omega
              exact h : near (xs.getD j 0) = true ∧ near (ys.getD j 0) = true)))
          clear hall
          generalize xs.getD k 0 = x at *
          generalize ys.getD k 0 = y at *
          cases n1 : near x
          · have HF := Lib.hid (HN.out (by rw [n1]; rfl))
            go_wp2_with (go_at_call 73; refine (c_l06Near _ _).mono ?_; rintro e w' ⟨rfl, nq, rfl⟩)
            go_ret
            exact ⟨by rw [HF.out]; rfl, by (first | exact ⟨_, rfl⟩ | exact ⟨0, rfl⟩ | exact ⟨_, World.drewN_drewN _ _ _⟩ | (simp only [World.drewN_drewN]; exact ⟨_, rfl⟩))⟩
          · cases n2 : near y
            · have HF := Lib.hid (HN.out (by rw [n1, n2]; rfl))
              go_wp2_with (go_at_call 73; refine (c_l06Near _ _).mono ?_; rintro e w' ⟨rfl, nq, rfl⟩)
              go_ret
              exact ⟨by rw [HF.out]; rfl, by (first | exact ⟨_, rfl⟩ | exact ⟨0, rfl⟩ | exact ⟨_, World.drewN_drewN _ _ _⟩ | (simp only [World.drewN_drewN]; exact ⟨_, rfl⟩))⟩
            · have HF := Lib.hid (HA.out ⟨n1, n2⟩)
              go_wp2_with (go_at_call 73; refine (c_l06Near _ _).mono ?_; rintro e w' ⟨rfl, nq, rfl⟩)
              go_roundw
              case rel => exact ⟨k + 1, by omega, by go_num, HF, by (first | exact ⟨_, rfl⟩ | exact ⟨0, rfl⟩ | exact ⟨_, World.drewN_drewN _ _ _⟩ | (simp only [World.drewN_drewN]; exact ⟨_, rfl⟩))⟩
              case measure => simp [intOf]; omega
        · have HE := Lib.hid (near_all K3.out fun j hj => hall.out j (by omega))
          clear hall
          go_wp2_with fail
          go_ret
          exact ⟨by rw [HV.out, HE.out]; rfl, by (first | exact ⟨_, rfl⟩ | exact ⟨0, rfl⟩ | exact ⟨_, World.drewN_drewN _ _ _⟩ | (simp only [World.drewN_drewN]; exact ⟨_, rfl⟩))⟩
  · rw [Bool.not_eq_true] at c7
    have HV := Lib.hid (vFarm_no (xs := xs) (ys := ys) (r := r) (d := d) (s := s) (.inr (.inr (.inr (.inr (.inr (.inr (.inl c7))))))))
    unfold fromTo fge fle at c7
    rw [Bool.and_eq_false_iff, Bool.or_eq_false_iff, Bool.or_eq_false_iff] at c7
    rcases c7 with ⟨h1, h2⟩ | ⟨h1, h2⟩
    · go_enter Try.func45, Try.ntmps45
      go_wp2_with (go_at_call 72; refine (c_l02Above _ _).mono ?_; rintro e w' ⟨rfl, nq, rfl⟩)
      go_ret
      exact ⟨by rw [HV.out]; rfl, by (first | exact ⟨_, rfl⟩ | exact ⟨0, rfl⟩ | exact ⟨_, World.drewN_drewN _ _ _⟩ | (simp only [World.drewN_drewN]; exact ⟨_, rfl⟩))⟩
    · cases h3 : flt (cl .f32 0) (cl .f32 d) <;> cases h4 : feq (cl .f32 d) (cl .f32 0)
      all_goals
        go_enter Try.func45, Try.ntmps45
        go_wp2_with (go_at_call 72; refine (c_l02Above _ _).mono ?_; rintro e w' ⟨rfl, nq, rfl⟩)
        go_ret
        exact ⟨by rw [HV.out]; rfl, by (first | exact ⟨_, rfl⟩ | exact ⟨0, rfl⟩ | exact ⟨_, World.drewN_drewN _ _ _⟩ | (simp only [World.drewN_drewN]; exact ⟨_, rfl⟩))⟩

/-- Of a farm of a call's own. -/
theorem c_implValidFarm' (lo hi : Nat) (v : Value) (xs ys : List Nat) (r d s : Nat) (w : World) (h : FarmAt w lo hi v xs ys r d s) (hs : hi ≤ w.heap.size) :
    Calls Try.prog 48 #[v] w fun e w' => e = .returned (.bool (vFarm xs ys r d s)) ∧ Grew w w' := by
  obtain ⟨A, c, C, e, rfl, hx, hy⟩ := h.parts
  exact c_implValidFarm A C _ c _ e hi xs ys r d s w hx hy hs

end Go.Proofs.Ytlakmogclcpgdaa
