/-
  CONTRACTS: lists of floats that are all of a kind.
-/
import Derived.Test.YtkippcjifikegaaSl
namespace Go.Proofs.Ytkippcjifikegaa
open Go.RowKit Go.Flt
set_option linter.unusedVariables false
set_option maxRecDepth 100000
set_option linter.unusedSimpArgs false

theorem c_areFinite1 (x : Nat) (w : World) : Calls Try.prog 63 #[.float .f32 x] w fun e w' => e = .returned (.bool (!fin (cl .f32 x))) ∧ ∃ n, w' = w.drewN n := by
  go_enter Try.func63, Try.ntmps63
  go_wp2_with (go_at_call 38; refine (c_IsFinite _ _).mono ?_; rintro e w' ⟨rfl, nq, rfl⟩)
  go_ret
  exact ⟨rfl, _, rfl⟩

theorem c_areLeast1 (x : Nat) (w : World) : Calls Try.prog 64 #[.float .f32 x] w fun e w' => e = .returned (.bool (!least (cl .f32 x))) ∧ ∃ n, w' = w.drewN n := by
  go_enter Try.func64, Try.ntmps64
  go_wp2_with (go_at_call 56; refine (c_isLeast _ _).mono ?_; rintro e w' ⟨rfl, nq, rfl⟩)
  go_ret
  exact ⟨rfl, _, rfl⟩

theorem c_ValidFarm1 (x : Nat) (w : World) : Calls Try.prog 76 #[.float .f32 x] w fun e w' => e = .returned (.bool (!fromTo (cl .f32 x) (cl .f32 3351465984) (cl .f32 1203982336))) ∧ ∃ n, w' = w.drewN n := by
  go_enter Try.func76, Try.ntmps76
  go_wp2_with (go_at_call 74; refine (c_isFromTo _ _ _ _).mono ?_; rintro e w' ⟨rfl, nq, rfl⟩)
  go_ret
  exact ⟨rfl, _, rfl⟩


theorem c_IndexFunc2 (A : Option Addr) (cap B : Nat) (xs : List Nat) (w : World) (h : Fl w B A xs.length xs) (hm : xs.length ≤ maxLen) :
    Calls Try.prog 81 #[.slice A xs.length cap, .func (.func 63) #[] #[]] w fun e w' => e = .returned (.int .i64 (idx (fun x => !fin (cl .f32 x)) xs)) ∧ ∃ n, w' = w.drewN n := by
  unfold maxLen at hm
  obtain ⟨_, hc⟩ := h
  rcases Nat.eq_zero_or_pos xs.length with h0 | h0
  · have : xs = [] := List.eq_nil_of_length_eq_zero h0
    subst this
    clear h0
    go_enter Try.func81, Try.ntmps81
    go_wp2_with fail
    refine wp_loop_rounds 1 ?_
    rw [rounds_succ]
    go_wp2_with fail
    go_ret
    exact ⟨rfl, 0, rfl⟩
  · obtain ⟨b, off, rfl, _, hc⟩ := hc h0
    have HC := Lib.hid hc
    clear hc
    generalize hP : (fun x => !fin (cl .f32 x)) = P
    have hp : ∀ x w, Calls Try.prog 63 #[.float .f32 x] w fun e w' => e = .returned (.bool (P x)) ∧ ∃ n, w' = w.drewN n := by subst hP; exact c_areFinite1
    clear hP
    have HP := Lib.hid hp
    clear hp
    go_enter Try.func81, Try.ntmps81
    go_wp2_with fail
    go_loopw [8] (fun i wr => ∃ k : Nat, k ≤ xs.length ∧ i = .int .i64 k ∧ Hid (∀ j x, j < k → xs[j]? = some x → P x = false) ∧ ∃ m, wr = w.drewN m) (fun i _ => xs.length - (intOf i).toNat)
    case atStart => exact ⟨0, Nat.zero_le _, rfl, fun _ _ h => absurd h (by omega), 0, rfl⟩
    case round =>
      obtain ⟨k, hk, rfl, hno, m, rfl⟩ := hrel
      by_cases hlt : k < xs.length
      · have hcell := HC.out k xs[k] (List.getElem?_eq_getElem hlt)
        cases hpx : P xs[k]
        · have HX := Lib.hid hpx
          go_wp2_with ((go_at_call 63; refine (HP.out _ _).mono ?_; rintro e w' ⟨rfl, nq, rfl⟩))
          go_roundw
          case rel => exact ⟨k + 1, by omega, by go_num, fun j x hj hx' => (by
            rcases Nat.lt_or_ge j k with h | h
            · exact hno.out j x h hx'
            · obtain rfl : j = k := by omega
              rw [List.getElem?_eq_getElem hlt] at hx'
              injection hx' with hx'
              rw [← hx']
              exact HX.out), _, rfl⟩
          case measure => simp [intOf]; omega
        · have HX := Lib.hid hpx
          go_wp2_with ((go_at_call 63; refine (HP.out _ _).mono ?_; rintro e w' ⟨rfl, nq, rfl⟩))
          go_ret
          exact ⟨by rw [idx_at hno.out hlt HX.out]; rfl, _, rfl⟩
      · have HE := Lib.hid (idx_none (p := P) (xs := xs) fun x hx => (by
          obtain ⟨j, hj, rfl⟩ := List.getElem_of_mem hx
          exact hno.out j _ (by omega) (List.getElem?_eq_getElem hj)))
        clear hno
        go_wp2_with fail
        go_ret
        exact ⟨by rw [HE.out]; rfl, _, rfl⟩

theorem c_ContainsFunc2 (A : Option Addr) (cap B : Nat) (xs : List Nat) (w : World) (h : Fl w B A xs.length xs) (hm : xs.length ≤ maxLen) :
    Calls Try.prog 62 #[.slice A xs.length cap, .func (.func 63) #[] #[]] w fun e w' => e = .returned (.bool (xs.any (fun x => !fin (cl .f32 x)))) ∧ ∃ n, w' = w.drewN n := by
  have HF := Lib.hid h
  clear h
  go_enter Try.func62, Try.ntmps62
  go_wp2_with (go_at_call 81; refine (c_IndexFunc2 _ _ B _ _ HF.out hm).mono ?_; rintro e w' ⟨rfl, nq, rfl⟩)
  go_ret
  exact ⟨by rw [← idx_any]; rfl, _, rfl⟩

theorem c_IndexFunc3 (A : Option Addr) (cap B : Nat) (xs : List Nat) (w : World) (h : Fl w B A xs.length xs) (hm : xs.length ≤ maxLen) :
    Calls Try.prog 81 #[.slice A xs.length cap, .func (.func 64) #[] #[]] w fun e w' => e = .returned (.int .i64 (idx (fun x => !least (cl .f32 x)) xs)) ∧ ∃ n, w' = w.drewN n := by
  unfold maxLen at hm
  obtain ⟨_, hc⟩ := h
  rcases Nat.eq_zero_or_pos xs.length with h0 | h0
  · have : xs = [] := List.eq_nil_of_length_eq_zero h0
    subst this
    clear h0
    go_enter Try.func81, Try.ntmps81
    go_wp2_with fail
    refine wp_loop_rounds 1 ?_
    rw [rounds_succ]
    go_wp2_with fail
    go_ret
    exact ⟨rfl, 0, rfl⟩
  · obtain ⟨b, off, rfl, _, hc⟩ := hc h0
    have HC := Lib.hid hc
    clear hc
    generalize hP : (fun x => !least (cl .f32 x)) = P
    have hp : ∀ x w, Calls Try.prog 64 #[.float .f32 x] w fun e w' => e = .returned (.bool (P x)) ∧ ∃ n, w' = w.drewN n := by subst hP; exact c_areLeast1
    clear hP
    have HP := Lib.hid hp
    clear hp
    go_enter Try.func81, Try.ntmps81
    go_wp2_with fail
    go_loopw [8] (fun i wr => ∃ k : Nat, k ≤ xs.length ∧ i = .int .i64 k ∧ Hid (∀ j x, j < k → xs[j]? = some x → P x = false) ∧ ∃ m, wr = w.drewN m) (fun i _ => xs.length - (intOf i).toNat)
    case atStart => exact ⟨0, Nat.zero_le _, rfl, fun _ _ h => absurd h (by omega), 0, rfl⟩
    case round =>
      obtain ⟨k, hk, rfl, hno, m, rfl⟩ := hrel
      by_cases hlt : k < xs.length
      · have hcell := HC.out k xs[k] (List.getElem?_eq_getElem hlt)
        cases hpx : P xs[k]
        · have HX := Lib.hid hpx
          go_wp2_with ((go_at_call 64; refine (HP.out _ _).mono ?_; rintro e w' ⟨rfl, nq, rfl⟩))
          go_roundw
          case rel => exact ⟨k + 1, by omega, by go_num, fun j x hj hx' => (by
            rcases Nat.lt_or_ge j k with h | h
            · exact hno.out j x h hx'
            · obtain rfl : j = k := by omega
              rw [List.getElem?_eq_getElem hlt] at hx'
              injection hx' with hx'
              rw [← hx']
              exact HX.out), _, rfl⟩
          case measure => simp [intOf]; omega
        · have HX := Lib.hid hpx
          go_wp2_with ((go_at_call 64; refine (HP.out _ _).mono ?_; rintro e w' ⟨rfl, nq, rfl⟩))
          go_ret
          exact ⟨by rw [idx_at hno.out hlt HX.out]; rfl, _, rfl⟩
      · have HE := Lib.hid (idx_none (p := P) (xs := xs) fun x hx => (by
          obtain ⟨j, hj, rfl⟩ := List.getElem_of_mem hx
          exact hno.out j _ (by omega) (List.getElem?_eq_getElem hj)))
        clear hno
        go_wp2_with fail
        go_ret
        exact ⟨by rw [HE.out]; rfl, _, rfl⟩

theorem c_ContainsFunc3 (A : Option Addr) (cap B : Nat) (xs : List Nat) (w : World) (h : Fl w B A xs.length xs) (hm : xs.length ≤ maxLen) :
    Calls Try.prog 62 #[.slice A xs.length cap, .func (.func 64) #[] #[]] w fun e w' => e = .returned (.bool (xs.any (fun x => !least (cl .f32 x)))) ∧ ∃ n, w' = w.drewN n := by
  have HF := Lib.hid h
  clear h
  go_enter Try.func62, Try.ntmps62
  go_wp2_with (go_at_call 81; refine (c_IndexFunc3 _ _ B _ _ HF.out hm).mono ?_; rintro e w' ⟨rfl, nq, rfl⟩)
  go_ret
  exact ⟨by rw [← idx_any]; rfl, _, rfl⟩

theorem c_IndexFunc4 (A : Option Addr) (cap B : Nat) (xs : List Nat) (w : World) (h : Fl w B A xs.length xs) (hm : xs.length ≤ maxLen) :
    Calls Try.prog 81 #[.slice A xs.length cap, .func (.func 76) #[] #[]] w fun e w' => e = .returned (.int .i64 (idx (fun x => !fromTo (cl .f32 x) (cl .f32 3351465984) (cl .f32 1203982336)) xs)) ∧ ∃ n, w' = w.drewN n := by
  unfold maxLen at hm
  obtain ⟨_, hc⟩ := h
  rcases Nat.eq_zero_or_pos xs.length with h0 | h0
  · have : xs = [] := List.eq_nil_of_length_eq_zero h0
    subst this
    clear h0
    go_enter Try.func81, Try.ntmps81
    go_wp2_with fail
    refine wp_loop_rounds 1 ?_
    rw [rounds_succ]
    go_wp2_with fail
    go_ret
    exact ⟨rfl, 0, rfl⟩
  · obtain ⟨b, off, rfl, _, hc⟩ := hc h0
    have HC := Lib.hid hc
    clear hc
    generalize hP : (fun x => !fromTo (cl .f32 x) (cl .f32 3351465984) (cl .f32 1203982336)) = P
    have hp : ∀ x w, Calls Try.prog 76 #[.float .f32 x] w fun e w' => e = .returned (.bool (P x)) ∧ ∃ n, w' = w.drewN n := by subst hP; exact c_ValidFarm1
    clear hP
    have HP := Lib.hid hp
    clear hp
    go_enter Try.func81, Try.ntmps81
    go_wp2_with fail
    go_loopw [8] (fun i wr => ∃ k : Nat, k ≤ xs.length ∧ i = .int .i64 k ∧ Hid (∀ j x, j < k → xs[j]? = some x → P x = false) ∧ ∃ m, wr = w.drewN m) (fun i _ => xs.length - (intOf i).toNat)
    case atStart => exact ⟨0, Nat.zero_le _, rfl, fun _ _ h => absurd h (by omega), 0, rfl⟩
    case round =>
      obtain ⟨k, hk, rfl, hno, m, rfl⟩ := hrel
      by_cases hlt : k < xs.length
      · have hcell := HC.out k xs[k] (List.getElem?_eq_getElem hlt)
        cases hpx : P xs[k]
        · have HX := Lib.hid hpx
          go_wp2_with ((go_at_call 76; refine (HP.out _ _).mono ?_; rintro e w' ⟨rfl, nq, rfl⟩))
          go_roundw
          case rel => exact ⟨k + 1, by omega, by go_num, fun j x hj hx' => (by
            rcases Nat.lt_or_ge j k with h | h
            · exact hno.out j x h hx'
            · obtain rfl : j = k := by omega
              rw [List.getElem?_eq_getElem hlt] at hx'
              injection hx' with hx'
              rw [← hx']
              exact HX.out), _, rfl⟩
          case measure => simp [intOf]; omega
        · have HX := Lib.hid hpx
          go_wp2_with ((go_at_call 76; refine (HP.out _ _).mono ?_; rintro e w' ⟨rfl, nq, rfl⟩))
          go_ret
          exact ⟨by rw [idx_at hno.out hlt HX.out]; rfl, _, rfl⟩
      · have HE := Lib.hid (idx_none (p := P) (xs := xs) fun x hx => (by
          obtain ⟨j, hj, rfl⟩ := List.getElem_of_mem hx
          exact hno.out j _ (by omega) (List.getElem?_eq_getElem hj)))
        clear hno
        go_wp2_with fail
        go_ret
        exact ⟨by rw [HE.out]; rfl, _, rfl⟩

theorem c_ContainsFunc4 (A : Option Addr) (cap B : Nat) (xs : List Nat) (w : World) (h : Fl w B A xs.length xs) (hm : xs.length ≤ maxLen) :
    Calls Try.prog 62 #[.slice A xs.length cap, .func (.func 76) #[] #[]] w fun e w' => e = .returned (.bool (xs.any (fun x => !fromTo (cl .f32 x) (cl .f32 3351465984) (cl .f32 1203982336)))) ∧ ∃ n, w' = w.drewN n := by
  have HF := Lib.hid h
  clear h
  go_enter Try.func62, Try.ntmps62
  go_wp2_with (go_at_call 81; refine (c_IndexFunc4 _ _ B _ _ HF.out hm).mono ?_; rintro e w' ⟨rfl, nq, rfl⟩)
  go_ret
  exact ⟨by rw [← idx_any]; rfl, _, rfl⟩

theorem c_impl.areFinite (A : Option Addr) (n cap B : Nat) (xs : List Nat) (w : World) (h : Fl w B A n xs) (hm : n ≤ maxLen) :
    Calls Try.prog 32 #[.slice A n cap] w fun e w' => e = .returned (.bool (xs.all fun x => fin (cl .f32 x))) ∧ ∃ n, w' = w.drewN n := by
  obtain rfl := h.1
  have HF := Lib.hid h
  clear h
  go_enter Try.func32, Try.ntmps32
  go_wp2_with (go_at_call 62; refine (c_ContainsFunc2 _ _ B _ _ HF.out hm).mono ?_; rintro e w' ⟨rfl, nq, rfl⟩)
  go_ret
  exact ⟨by rw [List.all_eq_not_any_not]; rfl, _, rfl⟩

theorem c_impl.areLeast (A : Option Addr) (n cap B : Nat) (xs : List Nat) (w : World) (h : Fl w B A n xs) (hm : n ≤ maxLen) :
    Calls Try.prog 33 #[.slice A n cap] w fun e w' => e = .returned (.bool (xs.all fun x => least (cl .f32 x))) ∧ ∃ n, w' = w.drewN n := by
  obtain rfl := h.1
  have HF := Lib.hid h
  clear h
  go_enter Try.func33, Try.ntmps33
  go_wp2_with (go_at_call 62; refine (c_ContainsFunc3 _ _ B _ _ HF.out hm).mono ?_; rintro e w' ⟨rfl, nq, rfl⟩)
  go_ret
  exact ⟨by rw [List.all_eq_not_any_not]; rfl, _, rfl⟩


end Go.Proofs.Ytkippcjifikegaa
