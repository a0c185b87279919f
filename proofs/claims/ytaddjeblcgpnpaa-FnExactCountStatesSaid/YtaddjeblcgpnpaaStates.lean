/-
  CONTRACTS: lists of states.
-/
import Derived.BigQuiet
import Derived.Deep.QuietTactic
import Derived.Test.YtaddjeblcgpnpaaInts
namespace Go.Proofs.Ytaddjeblcgpnpaa
open Go.RowKit Go.Flt
set_option linter.unusedVariables false
set_option maxRecDepth 100000
set_option linter.unusedSimpArgs false

def allIn (xs : List Int) : Bool := xs.all fun n => within n 0 4

def states (xs : List Int) : Bool := allIn xs && decide (xs.length ≤ 128)

theorem allIn_all {xs : List Int} (h : ∀ (j : Nat) (x : Int), xs[j]? = some x → within x 0 4 = true) : allIn xs = true := by
  unfold allIn
  rw [List.all_eq_true]
  intro x hx
  obtain ⟨j, hj, rfl⟩ := List.getElem_of_mem hx
  exact h j _ (List.getElem?_eq_getElem hj)

theorem allIn_no {xs : List Int} {k : Nat} (hk : k < xs.length) (h : within xs[k] 0 4 = false) : allIn xs = false := by
  unfold allIn
  rw [List.all_eq_false]
  exact ⟨_, List.getElem_mem hk, by simp [h]⟩


theorem c_spec.l05States (A : Option Addr) (n cap K : Nat) (xs : List Int) (w : World) (h : Slc (Value.int .i64) w K A n xs) (hn : n ≤ 1048576) :
    Calls Try.prog 58 #[.slice A n cap] w fun e w' => e = .returned (.bool (states xs)) ∧ ∃ n, w' = w.drewN n := by
  obtain rfl := h.1
  have HS := Lib.hid h
  clear h
  have hlen : decide ((xs.length : Int) ≤ 128) = decide (xs.length ≤ 128) := by
    rw [Bool.eq_iff_iff]; simp; omega
  have HL := Lib.hid hlen
  clear hlen
  go_enter Try.func58, Try.ntmps58
  go_wp2_with fail
  go_loopw [6] (fun i wr => ∃ k : Nat, k ≤ xs.length ∧ i = .int .i64 k ∧ Hid (∀ (j : Nat) (x : Int), j < k → xs[j]? = some x → within x 0 4 = true) ∧ ∃ m, wr = w.drewN m) (fun i _ => xs.length - (intOf i).toNat)
  case atStart => exact ⟨0, Nat.zero_le _, rfl, fun _ _ h => absurd h (by omega), 0, rfl⟩
  case round =>
    obtain ⟨k, hk, rfl, hall, m, rfl⟩ := hrel
    by_cases hlt : k < xs.length
    · obtain ⟨b, off, rfl, _, hc⟩ := HS.out.2 (by omega)
      have hcell := hc k xs[k] (List.getElem?_eq_getElem hlt)
      clear hc
      cases hw : within xs[k] 0 4
      · have HX := Lib.hid (allIn_no hlt hw)
        go_wp2_with (go_at_call 62; refine (c_l00In _ _ _ _).mono ?_; rintro e w' ⟨rfl, nq, rfl⟩)
        go_ret
        exact ⟨by simp only [states, HX.out]; rfl, _, rfl⟩
      · have HX := Lib.hid hw
        go_wp2_with (go_at_call 62; refine (c_l00In _ _ _ _).mono ?_; rintro e w' ⟨rfl, nq, rfl⟩)
        go_roundw
        case rel => exact ⟨k + 1, by omega, by go_num, fun j x hj hx => (by
            rcases Nat.lt_or_ge j k with h | h
            · exact hall.out j x h hx
            · obtain rfl : j = k := by omega
              rw [List.getElem?_eq_getElem hlt] at hx
              injection hx with hx
              rw [← hx]
              exact HX.out), _, rfl⟩
        case measure => simp [intOf]; omega
    · have HE := Lib.hid (allIn_all fun j x hx => hall.out j x (by have := (List.getElem?_eq_some_iff.1 hx).1; omega) hx)
      go_wp2_with fail
      go_ret
      exact ⟨by simp only [states, HE.out, Bool.true_and, ← HL.out]; rfl, _, rfl⟩

theorem c_impl.areStates (A : Option Addr) (n cap K : Nat) (xs : List Int) (w : World) (h : Slc (Value.int .i64) w K A n xs) (hn : n ≤ 1048576) :
    Calls Try.prog 59 #[.slice A n cap] w fun e w' => e = .returned (.bool (states xs)) ∧ ∃ n, w' = w.drewN n := by
  obtain rfl := h.1
  have HS := Lib.hid h
  clear h
  have hlen : decide ((xs.length : Int) ≤ 128) = decide (xs.length ≤ 128) := by
    rw [Bool.eq_iff_iff]; simp; omega
  have HL := Lib.hid hlen
  clear hlen
  go_enter Try.func59, Try.ntmps59
  go_wp2_with fail
  go_loopw [7] (fun i wr => ∃ k : Nat, k ≤ xs.length ∧ i = .int .i64 k ∧ Hid (∀ (j : Nat) (x : Int), j < k → xs[j]? = some x → within x 0 4 = true) ∧ ∃ m, wr = w.drewN m) (fun i _ => xs.length - (intOf i).toNat)
  case atStart => exact ⟨0, Nat.zero_le _, rfl, fun _ _ h => absurd h (by omega), 0, rfl⟩
  case round =>
    obtain ⟨k, hk, rfl, hall, m, rfl⟩ := hrel
    by_cases hlt : k < xs.length
    · obtain ⟨b, off, rfl, _, hc⟩ := HS.out.2 (by omega)
      have hcell := hc k xs[k] (List.getElem?_eq_getElem hlt)
      clear hc
      cases hw : within xs[k] 0 4
      · have HX := Lib.hid (allIn_no hlt hw)
        go_wp2_with (go_at_call 55; refine (c_isState _ _).mono ?_; rintro e w' ⟨rfl, nq, rfl⟩)
        go_ret
        exact ⟨by simp only [states, HX.out]; rfl, _, rfl⟩
      · have HX := Lib.hid hw
        go_wp2_with (go_at_call 55; refine (c_isState _ _).mono ?_; rintro e w' ⟨rfl, nq, rfl⟩)
        go_roundw
        case rel => exact ⟨k + 1, by omega, by go_num, fun j x hj hx => (by
            rcases Nat.lt_or_ge j k with h | h
            · exact hall.out j x h hx
            · obtain rfl : j = k := by omega
              rw [List.getElem?_eq_getElem hlt] at hx
              injection hx with hx
              rw [← hx]
              exact HX.out), _, rfl⟩
        case measure => simp [intOf]; omega
    · have HE := Lib.hid (allIn_all fun j x hx => hall.out j x (by have := (List.getElem?_eq_some_iff.1 hx).1; omega) hx)
      go_wp2_with fail
      go_ret
      exact ⟨by simp only [states, HE.out, Bool.true_and, ← HL.out]; rfl, _, rfl⟩

/-- How often a list changes below place k. -/
def chgTo (xs : List Int) : Nat → Nat
  | 0 => 0
  | k + 1 => chgTo xs k + if 1 ≤ k ∧ xs.getD k 0 ≠ xs.getD (k - 1) 0 then 1 else 0

theorem chgTo_le (xs : List Int) (k : Nat) : chgTo xs k ≤ k := by
  induction k with
  | zero => simp [chgTo]
  | succ k ih => unfold chgTo; split <;> omega

def chgs (xs : List Int) : Int := if states xs then chgTo xs (max 1 xs.length) else 0


theorem c_spec.ChangesIn (A : Option Addr) (n cap K : Nat) (xs : List Int) (w : World) (h : Slc (Value.int .i64) w K A n xs) (hn : n ≤ 1048576) :
    Calls Try.prog 26 #[.slice A n cap] w fun e w' => e = .returned (.tuple #[.int .i64 (chgs xs), .bool (states xs)]) ∧ ∃ n, w' = w.drewN n := by
  cases hst : states xs
  · have HS := Lib.hid h
    clear h
    go_enter Try.func26, Try.ntmps26
    go_wp2_with (go_at_call 58; refine (c_spec.l05States _ _ _ K xs _ HS.out hn).mono ?_; rintro e w' ⟨rfl, nq, rfl⟩)
    go_ret2
    exact ⟨by simp [chgs, hst], _, rfl⟩
  · obtain rfl := h.1
    have HS := Lib.hid h
    clear h
    go_enter Try.func26, Try.ntmps26
    go_wp2_with (go_at_call 58; refine (c_spec.l05States _ _ _ K xs _ HS.out hn).mono ?_; rintro e w' ⟨rfl, nq, rfl⟩)
    have HT := Lib.hid hst
    clear hst
    go_loopw [4, 5] (fun c i wr => ∃ k : Nat, 1 ≤ k ∧ k ≤ max 1 xs.length ∧ i = .int .i64 k ∧ c = .int .i64 (chgTo xs k) ∧ ∃ m, wr = w.drewN m) (fun _ i _ => max 1 xs.length - (intOf i).toNat)
    case atStart => exact ⟨1, by omega, by omega, rfl, rfl, _, rfl⟩
    case round =>
      obtain ⟨k, hk1, hk, rfl, rfl, m, rfl⟩ := hrel
      have hcl := chgTo_le xs k
      by_cases hlt : k < xs.length
      · obtain ⟨b, off, rfl, _, hc⟩ := HS.out.2 (by omega)
        obtain ⟨k, rfl⟩ : ∃ j, k = j + 1 := ⟨k - 1, by omega⟩
        have hc1 := hc (k + 1) (xs.getD (k + 1) 0) (by simp [hlt])
        have hc2 := hc k (xs.getD k 0) (by simp [Nat.lt_of_succ_lt hlt])
        clear hc
        have i1 : (0 : Int) ≤ (k : Int) + 1 := by omega
        have i2 : (k : Int) + 1 < (xs.length : Int) := by omega
        have i3 : IntKind.i64.wrap ((k : Int) + 1 - 1) = (k : Int) := by rw [IntKind.wrap_i64]; omega
        have i4 : (k : Int) < (xs.length : Int) := by omega
        have i6 : IntKind.i64.wrap (k : Int) = (k : Int) := by rw [IntKind.wrap_i64]; omega
        have i5 : ((k : Int) + 1).toNat = k + 1 := by omega
        have hs : chgTo xs (k + 1 + 1) = chgTo xs (k + 1) + if xs.getD (k + 1) 0 ≠ xs.getD k 0 then 1 else 0 := by
          show chgTo xs (k + 1) + _ = _
          simp
        have hd : (xs.getD (k + 1) 0 == xs.getD k 0) = decide (xs.getD (k + 1) 0 = xs.getD k 0) := by rw [Bool.eq_iff_iff]; simp
        generalize xs.getD (k + 1) 0 = x at *
        generalize xs.getD k 0 = y at *
        by_cases hxy : x = y
        · have e1 : (x != y) = false := by simp [hxy]
          have HC : Hid (chgTo xs (k + 1 + 1) = chgTo xs (k + 1)) := by rw [hs, if_neg (by simp [hxy])]; rfl
          clear hs hd hxy
          go_wp2_with fail
          try simp only [List.append_eq, List.cons_append, List.nil_append]
          refine wp_region_drawnC (by kernel_rfl) (by kernel_rfl) ?_
          repeat (first | (refine wpFree_skip rfl ?_; try go_simp) | (refine wpFree_want rfl (fun K hK => ?_); first | (refine free_fbin drawn_draw rfl rfl _ _ _ rfl rfl ?_; intro z hz hzw; go_simp; refine hK _ ?_; clear hK K) | (intro wq hq; obtain ⟨hqc, hqf, hqh⟩ := drawn_cells hq; go_simp; first | (refine hK _ ?_; clear hK K; try clear hqc hqf; try clear hqh; try clear hq; try clear wq) | fail)))
          refine wpFree_nil ?_
          intro wq hq
          obtain ⟨nq, rfl⟩ := hq
          go_wp2_with fail
          go_roundw
          case rel => exact ⟨k + 1 + 1, by omega, by omega, by go_num, by rw [HC.out], _, rfl⟩
          case measure => simp [intOf]; omega
        · have e1 : (x != y) = true := by simp [hxy]
          have HC : Hid (chgTo xs (k + 1 + 1) = chgTo xs (k + 1) + 1) := by rw [hs, if_pos hxy]; rfl
          clear hs hd hxy
          go_wp2_with fail
          try simp only [List.append_eq, List.cons_append, List.nil_append]
          refine wp_region_drawnC (by kernel_rfl) (by kernel_rfl) ?_
          repeat (first | (refine wpFree_skip rfl ?_; try go_simp) | (refine wpFree_want rfl (fun K hK => ?_); first | (refine free_fbin drawn_draw rfl rfl _ _ _ rfl rfl ?_; intro z hz hzw; go_simp; refine hK _ ?_; clear hK K) | (intro wq hq; obtain ⟨hqc, hqf, hqh⟩ := drawn_cells hq; go_simp; first | (refine hK _ ?_; clear hK K; try clear hqc hqf; try clear hqh; try clear hq; try clear wq) | fail)))
          refine wpFree_nil ?_
          intro wq hq
          obtain ⟨nq, rfl⟩ := hq
          go_wp2_with fail
          go_roundw
          case rel => exact ⟨k + 1 + 1, by omega, by omega, by go_num, by rw [HC.out]; go_num, _, rfl⟩
          case measure => simp [intOf]; omega
      · obtain rfl : k = max 1 xs.length := by omega
        go_wp2_with fail
        go_ret2
        exact ⟨by simp only [chgs, HT.out]; rfl, _, rfl⟩

theorem c_impl.ChangesIn (A : Option Addr) (n cap K : Nat) (xs : List Int) (w : World) (h : Slc (Value.int .i64) w K A n xs) (hn : n ≤ 1048576) :
    Calls Try.prog 28 #[.slice A n cap] w fun e w' => e = .returned (.tuple #[.int .i64 (chgs xs), .bool (states xs)]) ∧ ∃ n, w' = w.drewN n := by
  cases hst : states xs
  · have HS := Lib.hid h
    clear h
    go_enter Try.func28, Try.ntmps28
    go_wp2_with (go_at_call 59; refine (c_impl.areStates _ _ _ K xs _ HS.out hn).mono ?_; rintro e w' ⟨rfl, nq, rfl⟩)
    go_ret2
    exact ⟨by simp [chgs, hst], _, rfl⟩
  · obtain rfl := h.1
    have HS := Lib.hid h
    clear h
    go_enter Try.func28, Try.ntmps28
    go_wp2_with (go_at_call 59; refine (c_impl.areStates _ _ _ K xs _ HS.out hn).mono ?_; rintro e w' ⟨rfl, nq, rfl⟩)
    have HT := Lib.hid hst
    clear hst
    go_loopw [4, 5] (fun c i wr => ∃ k : Nat, 1 ≤ k ∧ k ≤ max 1 xs.length ∧ i = .int .i64 k ∧ c = .int .i64 (chgTo xs k) ∧ ∃ m, wr = w.drewN m) (fun _ i _ => max 1 xs.length - (intOf i).toNat)
    case atStart => exact ⟨1, by omega, by omega, rfl, rfl, _, rfl⟩
    case round =>
      obtain ⟨k, hk1, hk, rfl, rfl, m, rfl⟩ := hrel
      have hcl := chgTo_le xs k
      by_cases hlt : k < xs.length
      · obtain ⟨b, off, rfl, _, hc⟩ := HS.out.2 (by omega)
        obtain ⟨k, rfl⟩ : ∃ j, k = j + 1 := ⟨k - 1, by omega⟩
        have hc1 := hc (k + 1) (xs.getD (k + 1) 0) (by simp [hlt])
        have hc2 := hc k (xs.getD k 0) (by simp [Nat.lt_of_succ_lt hlt])
        clear hc
        have i1 : (0 : Int) ≤ (k : Int) + 1 := by omega
        have i2 : (k : Int) + 1 < (xs.length : Int) := by omega
        have i3 : IntKind.i64.wrap ((k : Int) + 1 - 1) = (k : Int) := by rw [IntKind.wrap_i64]; omega
        have i4 : (k : Int) < (xs.length : Int) := by omega
        have i6 : IntKind.i64.wrap (k : Int) = (k : Int) := by rw [IntKind.wrap_i64]; omega
        have i5 : ((k : Int) + 1).toNat = k + 1 := by omega
        have hs : chgTo xs (k + 1 + 1) = chgTo xs (k + 1) + if xs.getD (k + 1) 0 ≠ xs.getD k 0 then 1 else 0 := by
          show chgTo xs (k + 1) + _ = _
          simp
        have hd : (xs.getD (k + 1) 0 == xs.getD k 0) = decide (xs.getD (k + 1) 0 = xs.getD k 0) := by rw [Bool.eq_iff_iff]; simp
        generalize xs.getD (k + 1) 0 = x at *
        generalize xs.getD k 0 = y at *
        by_cases hxy : x = y
        · have e1 : (x != y) = false := by simp [hxy]
          have HC : Hid (chgTo xs (k + 1 + 1) = chgTo xs (k + 1)) := by rw [hs, if_neg (by simp [hxy])]; rfl
          clear hs hd hxy
          go_wp2_with fail
          try simp only [List.append_eq, List.cons_append, List.nil_append]
          refine wp_region_drawnC (by kernel_rfl) (by kernel_rfl) ?_
          repeat (first | (refine wpFree_skip rfl ?_; try go_simp) | (refine wpFree_want rfl (fun K hK => ?_); first | (refine free_fbin drawn_draw rfl rfl _ _ _ rfl rfl ?_; intro z hz hzw; go_simp; refine hK _ ?_; clear hK K) | (intro wq hq; obtain ⟨hqc, hqf, hqh⟩ := drawn_cells hq; go_simp; first | (refine hK _ ?_; clear hK K; try clear hqc hqf; try clear hqh; try clear hq; try clear wq) | fail)))
          refine wpFree_nil ?_
          intro wq hq
          obtain ⟨nq, rfl⟩ := hq
          go_wp2_with fail
          go_roundw
          case rel => exact ⟨k + 1 + 1, by omega, by omega, by go_num, by rw [HC.out], _, rfl⟩
          case measure => simp [intOf]; omega
        · have e1 : (x != y) = true := by simp [hxy]
          have HC : Hid (chgTo xs (k + 1 + 1) = chgTo xs (k + 1) + 1) := by rw [hs, if_pos hxy]; rfl
          clear hs hd hxy
          go_wp2_with fail
          try simp only [List.append_eq, List.cons_append, List.nil_append]
          refine wp_region_drawnC (by kernel_rfl) (by kernel_rfl) ?_
          repeat (first | (refine wpFree_skip rfl ?_; try go_simp) | (refine wpFree_want rfl (fun K hK => ?_); first | (refine free_fbin drawn_draw rfl rfl _ _ _ rfl rfl ?_; intro z hz hzw; go_simp; refine hK _ ?_; clear hK K) | (intro wq hq; obtain ⟨hqc, hqf, hqh⟩ := drawn_cells hq; go_simp; first | (refine hK _ ?_; clear hK K; try clear hqc hqf; try clear hqh; try clear hq; try clear wq) | fail)))
          refine wpFree_nil ?_
          intro wq hq
          obtain ⟨nq, rfl⟩ := hq
          go_wp2_with fail
          go_roundw
          case rel => exact ⟨k + 1 + 1, by omega, by omega, by go_num, by rw [HC.out]; go_num, _, rfl⟩
          case measure => simp [intOf]; omega
      · obtain rfl : k = max 1 xs.length := by omega
        go_wp2_with fail
        go_ret2
        exact ⟨by simp only [chgs, HT.out]; rfl, _, rfl⟩

theorem eq_not {α : Type} {xs ys : List α} {k : Nat} {x y : α} (hx : xs[k]? = some x) (hy : ys[k]? = some y) (h : x ≠ y) : xs ≠ ys := by
  rintro rfl
  rw [hx] at hy
  injection hy with hy
  exact h hy

theorem eq_all {α : Type} {xs ys : List α} (hl : xs.length = ys.length) (h : ∀ (j : Nat) (x y : α), j < xs.length → xs[j]? = some x → ys[j]? = some y → x = y) : xs = ys := by
  apply List.ext_getElem hl
  intro i h1 h2
  exact h i _ _ h1 (List.getElem?_eq_getElem h1) (List.getElem?_eq_getElem h2)

theorem two_succ {α : Type} {xs ys : List α} {k : Nat} {R : α → α → Prop} (hall : ∀ (j : Nat) (x y : α), j < k → xs[j]? = some x → ys[j]? = some y → R x y) (h1 : k < xs.length) (h2 : k < ys.length) (h : R xs[k] ys[k]) :
    ∀ (j : Nat) (x y : α), j < k + 1 → xs[j]? = some x → ys[j]? = some y → R x y := fun j x y hj hx hy => by
  rcases Nat.lt_or_ge j k with h' | h'
  · exact hall j x y h' hx hy
  · obtain rfl : j = k := by omega
    rw [List.getElem?_eq_getElem h1] at hx
    rw [List.getElem?_eq_getElem h2] at hy
    injection hx with hx
    injection hy with hy
    rw [← hx, ← hy]
    exact h

theorem c_eqInt64S (A B : Option Addr) (n m ca cb K : Nat) (xs ys : List Int) (w : World) (h : Slc (Value.int .i64) w K A n xs) (h' : Slc (Value.int .i64) w K B m ys) (hn : n ≤ 1048576) (hm : m ≤ 1048576) :
    Calls Try.prog 29 #[.slice A n ca, .slice B m cb] w fun e w' => e = .returned (.bool (decide (xs = ys))) ∧ ∃ n, w' = w.drewN n := by
  obtain rfl := h.1
  obtain rfl := h'.1
  have HS := Lib.hid h
  have HT := Lib.hid h'
  clear h h'
  by_cases hl : xs.length = ys.length
  · have hne : ((xs.length : Int) != (ys.length : Int)) = false := by simp [hl]
    have HL := Lib.hid hl
    clear hl
    go_enter Try.func29, Try.ntmps29
    go_wp2_with fail
    go_loopw [5] (fun i wr => ∃ k : Nat, k ≤ xs.length ∧ i = .int .i64 k ∧ Hid (∀ (j : Nat) (x y : Int), j < k → xs[j]? = some x → ys[j]? = some y → x = y) ∧ ∃ m, wr = w.drewN m) (fun i _ => xs.length - (intOf i).toNat)
    case atStart => exact ⟨0, Nat.zero_le _, rfl, fun _ _ _ h => absurd h (by omega), 0, rfl⟩
    case round =>
      obtain ⟨k, hk, rfl, hall, m, rfl⟩ := hrel
      by_cases hlt : k < xs.length
      · have hlt' : k < ys.length := by have := HL.out; omega
        obtain ⟨b, off, rfl, _, hc⟩ := HS.out.2 (by omega)
        obtain ⟨b', off', rfl, _, hc'⟩ := HT.out.2 (by omega)
        have hc1 := hc k xs[k] (List.getElem?_eq_getElem hlt)
        have hc2 := hc' k ys[k] (List.getElem?_eq_getElem hlt')
        clear hc hc'
        have i4 : (k : Int) < (xs.length : Int) := by omega
        have i5 : (k : Int) < (ys.length : Int) := by omega
        by_cases hxy : xs[k] = ys[k]
        · have HX := Lib.hid (two_succ (R := (· = ·)) hall.out hlt hlt' hxy)
          have e1 : (xs[k] != ys[k]) = false := by simp [hxy]
          generalize xs[k] = x at *
          generalize ys[k] = y at *
          clear hxy
          go_wp2_with fail
          try simp only [List.append_eq, List.cons_append, List.nil_append]
          refine wp_region_drawnC (by kernel_rfl) (by kernel_rfl) ?_
          repeat (first | (refine wpFree_skip rfl ?_; try go_simp) | (refine wpFree_want rfl (fun K hK => ?_); first | (refine free_fbin drawn_draw rfl rfl _ _ _ rfl rfl ?_; intro z hz hzw; go_simp; refine hK _ ?_; clear hK K) | (intro wq hq; obtain ⟨hqc, hqf, hqh⟩ := drawn_cells hq; go_simp; first | (refine hK _ ?_; clear hK K; try clear hqc hqf; try clear hqh; try clear hq; try clear wq) | fail)))
          refine wpFree_nil ?_
          intro wq hq
          obtain ⟨nq, rfl⟩ := hq
          go_wp2_with fail
          go_roundw
          case rel => exact ⟨k + 1, by omega, by go_num, HX, by (first | exact ⟨_, rfl⟩ | exact ⟨0, rfl⟩ | exact ⟨_, World.drewN_drewN _ _ _⟩ | (simp only [World.drewN_drewN]; exact ⟨_, rfl⟩))⟩
          case measure => simp [intOf]; omega
        · have HX := Lib.hid (eq_not (List.getElem?_eq_getElem hlt) (List.getElem?_eq_getElem hlt') hxy)
          have e1 : (xs[k] != ys[k]) = true := by simp [hxy]
          generalize xs[k] = x at *
          generalize ys[k] = y at *
          clear hxy
          go_wp2_with fail
          try simp only [List.append_eq, List.cons_append, List.nil_append]
          refine wp_region_drawnC (by kernel_rfl) (by kernel_rfl) ?_
          repeat (first | (refine wpFree_skip rfl ?_; try go_simp) | (refine wpFree_want rfl (fun K hK => ?_); first | (refine free_fbin drawn_draw rfl rfl _ _ _ rfl rfl ?_; intro z hz hzw; go_simp; refine hK _ ?_; clear hK K) | (intro wq hq; obtain ⟨hqc, hqf, hqh⟩ := drawn_cells hq; go_simp; first | (refine hK _ ?_; clear hK K; try clear hqc hqf; try clear hqh; try clear hq; try clear wq) | fail)))
          refine wpFree_nil ?_
          intro wq hq
          obtain ⟨nq, rfl⟩ := hq
          go_wp2_with fail
          go_ret
          exact ⟨by rw [decide_eq_false HX.out]; rfl, by (first | exact ⟨_, rfl⟩ | exact ⟨0, rfl⟩ | exact ⟨_, World.drewN_drewN _ _ _⟩ | (simp only [World.drewN_drewN]; exact ⟨_, rfl⟩))⟩
      · have HE := Lib.hid (eq_all HL.out fun j x y hj hx hy => hall.out j x y (by omega) hx hy)
        go_wp2_with fail
        go_ret
        exact ⟨by rw [decide_eq_true HE.out]; rfl, _, rfl⟩
  · have HE : Hid (xs ≠ ys) := fun e => hl (by rw [e])
    have hne : ((xs.length : Int) != (ys.length : Int)) = true := by rw [bne_iff_ne]; omega
    clear hl
    go_enter Try.func29, Try.ntmps29
    go_wp2_with fail
    go_ret
    exact ⟨by rw [decide_eq_false HE.out]; rfl, 0, rfl⟩


theorem walk_ChangesIn (A : Option Addr) (n cap : Nat) (xs : List Int) (w : World) (h : Slc (Value.int .i64) w w.heap.size A n xs) (hm : n ≤ maxLen) : Calls Try.prog 7 #[.slice A n cap] w fun e w' => e = .returned (.bool true) ∧ Below w.heap.size w w' := by
  unfold maxLen at hm
  by_cases hn : n ≤ 1048576
  · obtain rfl := h.1
    have HS := Lib.hid h
    have hd : decide ((1048576 : Int) < (xs.length : Int)) = false := by simp; omega
    clear h
    go_enter Try.func7, Try.ntmps7
    go_wp2_with fail
    refine (c_toInt64S A _ cap w.heap.size xs w HS.out (Nat.le_refl _) hn).mono ?_
    rintro e w1 ⟨b1, rfl, hb1, ho1, hg1⟩
    have O1 := Lib.hid ho1
    have G1 := Lib.hid hg1
    clear ho1 hg1
    go_wp2_with (go_at_call 26; refine (c_spec.ChangesIn _ _ _ _ xs _ (O1.out.slc (Nat.lt_succ_self _)) hn).mono ?_; rintro e w' ⟨rfl, nq, rfl⟩)
    have S2 : Slc (Value.int .i64) (w1.drewN nq) w.heap.size A xs.length xs := (HS.out.grew (Nat.le_refl _) G1.out).drewN nq
    refine (c_toInt64S A _ cap w.heap.size xs _ S2 (Below.size (grew_draw _ nq G1.out)) hn).mono ?_
    rintro e w2 ⟨b2, rfl, hb2, ho2, hg2⟩
    have O2 := Lib.hid ho2
    have G2 := Lib.hid (grew_trans (grew_draw _ nq G1.out) hg2)
    clear S2 ho2 hg2 hb2
    go_wp2_with (go_at_call 28; refine (c_impl.ChangesIn _ _ _ _ xs _ (O2.out.slc (Nat.lt_succ_self _)) hn).mono ?_; rintro e w' ⟨rfl, nq, rfl⟩)
    have S3 : Slc (Value.int .i64) (w2.drewN nq) w.heap.size A xs.length xs := (HS.out.grew (Nat.le_refl _) G2.out).drewN nq
    refine (c_toInt64S A _ cap w.heap.size xs _ S3 (Below.size (grew_draw _ nq G2.out)) hn).mono ?_
    rintro e w3 ⟨b3, rfl, hb3, ho3, hg3⟩
    have O3 := Lib.hid ho3
    have E3 := Lib.hid ((O2.out.drewN nq).grew hg3)
    have G3 := Lib.hid (grew_trans (grew_draw _ nq G2.out) hg3)
    clear S3 ho3 hg3 hb3
    have he : decide (xs = xs) = true := by simp
    go_wp2_with (go_at_call 29; refine (c_eqInt64S _ _ _ _ _ _ (b2 + b3 + 1) xs xs _ (E3.out.slc (by omega)) (O3.out.slc (by omega)) hn hn).mono ?_; rintro e w' ⟨rfl, nq, rfl⟩)
    go_ret
    exact ⟨rfl, grew_draw _ _ G3.out⟩
  · have hd : decide ((1048576 : Int) < (n : Int)) = true := by simp; omega
    clear h
    go_enter Try.func7, Try.ntmps7
    go_wp2_with fail
    go_ret
    exact ⟨rfl, by (repeat (first | exact Below.refl _ _ | refine ext_below ?_ (by first | omega | (simp only [size_ext, heap_push, Array.size_push, World.heap_drewN]; omega) | (simp; omega)) _ _ | refine below_draws ?_ _ | refine Below.alloc ?_ (by first | omega | (simp; done) | (simp; omega)) _ | refine Below.setCell ?_ (by first | omega | (simp; done) | (simp; omega)) _ | refine below_then (by assumption) (by first | omega | (simp; done) | (simp; omega)) ?_))⟩

end Go.Proofs.Ytaddjeblcgpnpaa
