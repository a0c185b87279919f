/-
  CONTRACTS: the guards of roses of winds.
-/
import Derived.Test.YtebhefbpkcpnjaaRo
import Derived.Test.YtebhefbpkcpnjaaEven
namespace Go.Proofs.Ytebhefbpkcpnjaa
open Go.RowKit Go.Flt
set_option linter.unusedVariables false
set_option maxRecDepth 100000
set_option linter.unusedSimpArgs false

theorem c_RoseOf1 (x : Nat) (w : World) : Calls Try.prog 81 #[.float .f32 x] w fun e w' => e = .returned (.bool (!isTurn (cl .f32 x))) ∧ ∃ n, w' = w.drewN n := by
  go_enter Try.func81, Try.ntmps81
  go_wp2_with (go_at_call 82; refine (c_isTurn _ _).mono ?_; rintro e w' ⟨rfl, nq, rfl⟩)
  go_ret
  exact ⟨rfl, _, rfl⟩


theorem c_IndexFunc5 (A : Option Addr) (cap B : Nat) (xs : List Nat) (w : World) (h : Fl w B A xs.length xs) (hm : xs.length ≤ maxLen) :
    Calls Try.prog 96 #[.slice A xs.length cap, .func (.func 81) #[] #[]] w fun e w' => e = .returned (.int .i64 (idx (fun x => !isTurn (cl .f32 x)) xs)) ∧ ∃ n, w' = w.drewN n := by
  unfold maxLen at hm
  obtain ⟨_, hc⟩ := h
  rcases Nat.eq_zero_or_pos xs.length with h0 | h0
  · have : xs = [] := List.eq_nil_of_length_eq_zero h0
    subst this
    clear h0
    go_enter Try.func96, Try.ntmps96
    go_wp2_with fail
    refine wp_loop_rounds 1 ?_
    rw [rounds_succ]
    go_wp2_with fail
    go_ret
    exact ⟨rfl, 0, rfl⟩
  · obtain ⟨b, off, rfl, _, hc⟩ := hc h0
    have HC := Lib.hid hc
    clear hc
    generalize hP : (fun x => !isTurn (cl .f32 x)) = P
    have hp : ∀ x w, Calls Try.prog 81 #[.float .f32 x] w fun e w' => e = .returned (.bool (P x)) ∧ ∃ n, w' = w.drewN n := by subst hP; exact c_RoseOf1
    clear hP
    have HP := Lib.hid hp
    clear hp
    go_enter Try.func96, Try.ntmps96
    go_wp2_with fail
    go_loopw [8] (fun i wr => ∃ k : Nat, k ≤ xs.length ∧ i = .int .i64 k ∧ Hid (∀ j x, j < k → xs[j]? = some x → P x = false) ∧ ∃ m, wr = w.drewN m) (fun i _ => xs.length - (intOf i).toNat)
    case atStart => exact ⟨0, Nat.zero_le _, rfl, fun _ _ h => absurd h (by omega), 0, rfl⟩
    case round =>
      obtain ⟨k, hk, rfl, hno, m, rfl⟩ := hrel
      by_cases hlt : k < xs.length
      · have hcell := HC.out k xs[k] (List.getElem?_eq_getElem hlt)
        cases hpx : P xs[k]
        · have HX := Lib.hid hpx
          go_wp2_with ((go_at_call 81; refine (HP.out _ _).mono ?_; rintro e w' ⟨rfl, nq, rfl⟩))
          go_roundw
          case rel => exact ⟨k + 1, by omega, by go_num, fun j x hj hx' => (by
            rcases Nat.lt_or_ge j k with h | h
            · exact hno.out j x h hx'
            · obtain rfl : j = k := by omega
              rw [List.getElem?_eq_getElem hlt] at hx'
              injection hx' with hx'
              rw [← hx']
              exact HX.out), _, rfl⟩
          case measure => simp [intOf]; omega
        · have HX := Lib.hid hpx
          go_wp2_with ((go_at_call 81; refine (HP.out _ _).mono ?_; rintro e w' ⟨rfl, nq, rfl⟩))
          go_ret
          exact ⟨by rw [idx_at hno.out hlt HX.out]; rfl, _, rfl⟩
      · have HE := Lib.hid (idx_none (p := P) (xs := xs) fun x hx => (by
          obtain ⟨j, hj, rfl⟩ := List.getElem_of_mem hx
          exact hno.out j _ (by omega) (List.getElem?_eq_getElem hj)))
        clear hno
        go_wp2_with fail
        go_ret
        exact ⟨by rw [HE.out]; rfl, _, rfl⟩

theorem c_ContainsFunc5 (A : Option Addr) (cap B : Nat) (xs : List Nat) (w : World) (h : Fl w B A xs.length xs) (hm : xs.length ≤ maxLen) :
    Calls Try.prog 80 #[.slice A xs.length cap, .func (.func 81) #[] #[]] w fun e w' => e = .returned (.bool (xs.any (fun x => !isTurn (cl .f32 x)))) ∧ ∃ n, w' = w.drewN n := by
  have HF := Lib.hid h
  clear h
  go_enter Try.func80, Try.ntmps80
  go_wp2_with (go_at_call 96; refine (c_IndexFunc5 _ _ B _ _ HF.out hm).mono ?_; rintro e w' ⟨rfl, nq, rfl⟩)
  go_ret
  exact ⟨by rw [← idx_any]; rfl, _, rfl⟩

def allTurn (xs : List Nat) : Bool := xs.all fun x => isTurn (cl .f32 x)

theorem allTurn_any (xs : List Nat) : (xs.any fun x => !isTurn (cl .f32 x)) = !allTurn xs := by
  unfold allTurn
  rw [List.all_eq_not_any_not, Bool.not_not]

def roOk (xs ys : List Nat) (cn : Int) : Bool := winds ys && decide (xs.length = ys.length) && allTurn xs && within cn 1 16

def isRO (xs ys : List Nat) (cn : Int) : Bool := roOk xs ys cn && vRoseD (shL xs cn.toNat) (spL xs ys cn.toNat)

theorem roOk_parts {xs ys : List Nat} {cn : Int} (h : roOk xs ys cn = true) : ∃ c : Nat, cn = (c : Int) ∧ 1 ≤ c ∧ c ≤ 16 ∧ winds ys = true ∧ xs.length = ys.length ∧ allTurn xs = true ∧ 1 ≤ xs.length ∧ xs.length ≤ 256 := by
  unfold roOk at h
  simp only [Bool.and_eq_true, decide_eq_true_eq] at h
  obtain ⟨⟨⟨h1, h2⟩, h3⟩, h4⟩ := h
  unfold within at h4
  simp at h4
  have hw := h1
  unfold winds at hw
  simp only [Bool.and_eq_true, decide_eq_true_eq] at hw
  exact ⟨cn.toNat, by omega, by omega, by omega, h1, h2, h3, by omega, by omega⟩

end Go.Proofs.Ytebhefbpkcpnjaa
