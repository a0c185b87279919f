/-
  CONTRACTS: lists of floats that are all of a kind.
-/
import Derived.Test.YtebhefbpkcpnjaaSl
namespace Go.Proofs.Ytebhefbpkcpnjaa
open Go.RowKit Go.Flt
set_option linter.unusedVariables false
set_option maxRecDepth 100000
set_option linter.unusedSimpArgs false

theorem c_areFinite1 (x : Nat) (w : World) : Calls Try.prog 105 #[.float .f32 x] w fun e w' => e = .returned (.bool (!fin (cl .f32 x))) ∧ ∃ n, w' = w.drewN n := by
  go_enter Try.func105, Try.ntmps105
  go_wp2_with (go_at_call 72; refine (c_IsFinite _ _).mono ?_; rintro e w' ⟨rfl, nq, rfl⟩)
  go_ret
  exact ⟨rfl, _, rfl⟩

theorem c_areLeast1 (x : Nat) (w : World) : Calls Try.prog 98 #[.float .f32 x] w fun e w' => e = .returned (.bool (!least (cl .f32 x))) ∧ ∃ n, w' = w.drewN n := by
  go_enter Try.func98, Try.ntmps98
  go_wp2_with (go_at_call 92; refine (c_isLeast _ _).mono ?_; rintro e w' ⟨rfl, nq, rfl⟩)
  go_ret
  exact ⟨rfl, _, rfl⟩


theorem c_IndexFunc2 (A : Option Addr) (cap B : Nat) (xs : List Nat) (w : World) (h : Fl w B A xs.length xs) (hm : xs.length ≤ maxLen) :
    Calls Try.prog 96 #[.slice A xs.length cap, .func (.func 105) #[] #[]] w fun e w' => e = .returned (.int .i64 (idx (fun x => !fin (cl .f32 x)) xs)) ∧ ∃ n, w' = w.drewN n := by
  unfold maxLen at hm
  obtain ⟨_, hc⟩ := h
  rcases Nat.eq_zero_or_pos xs.length with h0 | h0
  · have : xs = [] := List.eq_nil_of_length_eq_zero h0
    subst this
    clear h0
    go_enter Try.func96, Try.ntmps96
    go_wp2_with fail
    refine wp_loop_rounds 1 ?_
    rw [rounds_succ]
    go_wp2_with fail
    go_ret
    exact ⟨rfl, 0, rfl⟩
  · obtain ⟨b, off, rfl, _, hc⟩ := hc h0
    have HC := Lib.hid hc
    clear hc
    generalize hP : (fun x => !fin (cl .f32 x)) = P
    have hp : ∀ x w, Calls Try.prog 105 #[.float .f32 x] w fun e w' => e = .returned (.bool (P x)) ∧ ∃ n, w' = w.drewN n := by subst hP; exact c_areFinite1
    clear hP
    have HP := Lib.hid hp
    clear hp
    go_enter Try.func96, Try.ntmps96
    go_wp2_with fail
    go_loopw [8] (fun i wr => ∃ k : Nat, k ≤ xs.length ∧ i = .int .i64 k ∧ Hid (∀ j x, j < k → xs[j]? = some x → P x = false) ∧ ∃ m, wr = w.drewN m) (fun i _ => xs.length - (intOf i).toNat)
    case atStart => exact ⟨0, Nat.zero_le _, rfl, fun _ _ h => absurd h (by omega), 0, rfl⟩
    case round =>
      obtain ⟨k, hk, rfl, hno, m, rfl⟩ := hrel
      by_cases hlt : k < xs.length
      · have hcell := HC.out k xs[k] (List.getElem?_eq_getElem hlt)
        cases hpx : P xs[k]
        · have HX := Lib.hid hpx
          go_wp2_with ((go_at_call 105; refine (HP.out _ _).mono ?_; rintro e w' ⟨rfl, nq, rfl⟩))
          go_roundw
          case rel => exact ⟨k + 1, by omega, by go_num, fun j x hj hx' => (by
            rcases Nat.lt_or_ge j k with h | h
            · exact hno.out j x h hx'
            · obtain rfl : j = k := by omega
              rw [List.getElem?_eq_getElem hlt] at hx'
              injection hx' with hx'
              rw [← hx']
              exact HX.out), _, rfl⟩
          case measure => simp [intOf]; omega
        · have HX := Lib.hid hpx
          go_wp2_with ((go_at_call 105; refine (HP.out _ _).mono ?_; rintro e w' ⟨rfl, nq, rfl⟩))
          go_ret
          exact ⟨by rw [idx_at hno.out hlt HX.out]; rfl, _, rfl⟩
      · have HE := Lib.hid (idx_none (p := P) (xs := xs) fun x hx => (by
          obtain ⟨j, hj, rfl⟩ := List.getElem_of_mem hx
          exact hno.out j _ (by omega) (List.getElem?_eq_getElem hj)))
        clear hno
        go_wp2_with fail
        go_ret
        exact ⟨by rw [HE.out]; rfl, _, rfl⟩

theorem c_ContainsFunc2 (A : Option Addr) (cap B : Nat) (xs : List Nat) (w : World) (h : Fl w B A xs.length xs) (hm : xs.length ≤ maxLen) :
    Calls Try.prog 80 #[.slice A xs.length cap, .func (.func 105) #[] #[]] w fun e w' => e = .returned (.bool (xs.any (fun x => !fin (cl .f32 x)))) ∧ ∃ n, w' = w.drewN n := by
  have HF := Lib.hid h
  clear h
  go_enter Try.func80, Try.ntmps80
  go_wp2_with (go_at_call 96; refine (c_IndexFunc2 _ _ B _ _ HF.out hm).mono ?_; rintro e w' ⟨rfl, nq, rfl⟩)
  go_ret
  exact ⟨by rw [← idx_any]; rfl, _, rfl⟩

theorem c_IndexFunc3 (A : Option Addr) (cap B : Nat) (xs : List Nat) (w : World) (h : Fl w B A xs.length xs) (hm : xs.length ≤ maxLen) :
    Calls Try.prog 96 #[.slice A xs.length cap, .func (.func 98) #[] #[]] w fun e w' => e = .returned (.int .i64 (idx (fun x => !least (cl .f32 x)) xs)) ∧ ∃ n, w' = w.drewN n := by
  unfold maxLen at hm
  obtain ⟨_, hc⟩ := h
  rcases Nat.eq_zero_or_pos xs.length with h0 | h0
  · have : xs = [] := List.eq_nil_of_length_eq_zero h0
    subst this
    clear h0
    go_enter Try.func96, Try.ntmps96
    go_wp2_with fail
    refine wp_loop_rounds 1 ?_
    rw [rounds_succ]
    go_wp2_with fail
    go_ret
    exact ⟨rfl, 0, rfl⟩
  · obtain ⟨b, off, rfl, _, hc⟩ := hc h0
    have HC := Lib.hid hc
    clear hc
    generalize hP : (fun x => !least (cl .f32 x)) = P
    have hp : ∀ x w, Calls Try.prog 98 #[.float .f32 x] w fun e w' => e = .returned (.bool (P x)) ∧ ∃ n, w' = w.drewN n := by subst hP; exact c_areLeast1
    clear hP
    have HP := Lib.hid hp
    clear hp
    go_enter Try.func96, Try.ntmps96
    go_wp2_with fail
    go_loopw [8] (fun i wr => ∃ k : Nat, k ≤ xs.length ∧ i = .int .i64 k ∧ Hid (∀ j x, j < k → xs[j]? = some x → P x = false) ∧ ∃ m, wr = w.drewN m) (fun i _ => xs.length - (intOf i).toNat)
    case atStart => exact ⟨0, Nat.zero_le _, rfl, fun _ _ h => absurd h (by omega), 0, rfl⟩
    case round =>
      obtain ⟨k, hk, rfl, hno, m, rfl⟩ := hrel
      by_cases hlt : k < xs.length
      · have hcell := HC.out k xs[k] (List.getElem?_eq_getElem hlt)
        cases hpx : P xs[k]
        · have HX := Lib.hid hpx
          go_wp2_with ((go_at_call 98; refine (HP.out _ _).mono ?_; rintro e w' ⟨rfl, nq, rfl⟩))
          go_roundw
          case rel => exact ⟨k + 1, by omega, by go_num, fun j x hj hx' => (by
            rcases Nat.lt_or_ge j k with h | h
            · exact hno.out j x h hx'
            · obtain rfl : j = k := by omega
              rw [List.getElem?_eq_getElem hlt] at hx'
              injection hx' with hx'
              rw [← hx']
              exact HX.out), _, rfl⟩
          case measure => simp [intOf]; omega
        · have HX := Lib.hid hpx
          go_wp2_with ((go_at_call 98; refine (HP.out _ _).mono ?_; rintro e w' ⟨rfl, nq, rfl⟩))
          go_ret
          exact ⟨by rw [idx_at hno.out hlt HX.out]; rfl, _, rfl⟩
      · have HE := Lib.hid (idx_none (p := P) (xs := xs) fun x hx => (by
          obtain ⟨j, hj, rfl⟩ := List.getElem_of_mem hx
          exact hno.out j _ (by omega) (List.getElem?_eq_getElem hj)))
        clear hno
        go_wp2_with fail
        go_ret
        exact ⟨by rw [HE.out]; rfl, _, rfl⟩

theorem c_ContainsFunc3 (A : Option Addr) (cap B : Nat) (xs : List Nat) (w : World) (h : Fl w B A xs.length xs) (hm : xs.length ≤ maxLen) :
    Calls Try.prog 80 #[.slice A xs.length cap, .func (.func 98) #[] #[]] w fun e w' => e = .returned (.bool (xs.any (fun x => !least (cl .f32 x)))) ∧ ∃ n, w' = w.drewN n := by
  have HF := Lib.hid h
  clear h
  go_enter Try.func80, Try.ntmps80
  go_wp2_with (go_at_call 96; refine (c_IndexFunc3 _ _ B _ _ HF.out hm).mono ?_; rintro e w' ⟨rfl, nq, rfl⟩)
  go_ret
  exact ⟨by rw [← idx_any]; rfl, _, rfl⟩

theorem c_impl.areFinite (A : Option Addr) (n cap B : Nat) (xs : List Nat) (w : World) (h : Fl w B A n xs) (hm : n ≤ maxLen) :
    Calls Try.prog 97 #[.slice A n cap] w fun e w' => e = .returned (.bool (xs.all fun x => fin (cl .f32 x))) ∧ ∃ n, w' = w.drewN n := by
  obtain rfl := h.1
  have HF := Lib.hid h
  clear h
  go_enter Try.func97, Try.ntmps97
  go_wp2_with (go_at_call 80; refine (c_ContainsFunc2 _ _ B _ _ HF.out hm).mono ?_; rintro e w' ⟨rfl, nq, rfl⟩)
  go_ret
  exact ⟨by rw [List.all_eq_not_any_not]; rfl, _, rfl⟩

theorem c_impl.areLeast (A : Option Addr) (n cap B : Nat) (xs : List Nat) (w : World) (h : Fl w B A n xs) (hm : n ≤ maxLen) :
    Calls Try.prog 88 #[.slice A n cap] w fun e w' => e = .returned (.bool (xs.all fun x => least (cl .f32 x))) ∧ ∃ n, w' = w.drewN n := by
  obtain rfl := h.1
  have HF := Lib.hid h
  clear h
  go_enter Try.func88, Try.ntmps88
  go_wp2_with (go_at_call 80; refine (c_ContainsFunc3 _ _ B _ _ HF.out hm).mono ?_; rintro e w' ⟨rfl, nq, rfl⟩)
  go_ret
  exact ⟨by rw [List.all_eq_not_any_not]; rfl, _, rfl⟩


end Go.Proofs.Ytebhefbpkcpnjaa
