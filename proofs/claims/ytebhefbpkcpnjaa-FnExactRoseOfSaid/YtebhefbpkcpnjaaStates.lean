/-
  CONTRACTS: lists of states.
-/
import Derived.BigQuiet
import Derived.Deep.QuietTactic
import Derived.Test.YtebhefbpkcpnjaaInts
namespace Go.Proofs.Ytebhefbpkcpnjaa
open Go.RowKit Go.Flt
set_option linter.unusedVariables false
set_option maxRecDepth 100000
set_option linter.unusedSimpArgs false

def allIn (xs : List Int) : Bool := xs.all fun n => within n 0 4

def states (xs : List Int) : Bool := allIn xs && decide (xs.length ≤ 128)

theorem allIn_all {xs : List Int} (h : ∀ (j : Nat) (x : Int), xs[j]? = some x → within x 0 4 = true) : allIn xs = true := by
  unfold allIn
  rw [List.all_eq_true]
  intro x hx
  obtain ⟨j, hj, rfl⟩ := List.getElem_of_mem hx
  exact h j _ (List.getElem?_eq_getElem hj)

theorem allIn_no {xs : List Int} {k : Nat} (hk : k < xs.length) (h : within xs[k] 0 4 = false) : allIn xs = false := by
  unfold allIn
  rw [List.all_eq_false]
  exact ⟨_, List.getElem_mem hk, by simp [h]⟩


/-- How often a list changes below place k. -/
def chgTo (xs : List Int) : Nat → Nat
  | 0 => 0
  | k + 1 => chgTo xs k + if 1 ≤ k ∧ xs.getD k 0 ≠ xs.getD (k - 1) 0 then 1 else 0

theorem chgTo_le (xs : List Int) (k : Nat) : chgTo xs k ≤ k := by
  induction k with
  | zero => simp [chgTo]
  | succ k ih => unfold chgTo; split <;> omega

def chgs (xs : List Int) : Int := if states xs then chgTo xs (max 1 xs.length) else 0


theorem eq_not {α : Type} {xs ys : List α} {k : Nat} {x y : α} (hx : xs[k]? = some x) (hy : ys[k]? = some y) (h : x ≠ y) : xs ≠ ys := by
  rintro rfl
  rw [hx] at hy
  injection hy with hy
  exact h hy

theorem eq_all {α : Type} {xs ys : List α} (hl : xs.length = ys.length) (h : ∀ (j : Nat) (x y : α), j < xs.length → xs[j]? = some x → ys[j]? = some y → x = y) : xs = ys := by
  apply List.ext_getElem hl
  intro i h1 h2
  exact h i _ _ h1 (List.getElem?_eq_getElem h1) (List.getElem?_eq_getElem h2)

theorem two_succ {α : Type} {xs ys : List α} {k : Nat} {R : α → α → Prop} (hall : ∀ (j : Nat) (x y : α), j < k → xs[j]? = some x → ys[j]? = some y → R x y) (h1 : k < xs.length) (h2 : k < ys.length) (h : R xs[k] ys[k]) :
    ∀ (j : Nat) (x y : α), j < k + 1 → xs[j]? = some x → ys[j]? = some y → R x y := fun j x y hj hx hy => by
  rcases Nat.lt_or_ge j k with h' | h'
  · exact hall j x y h' hx hy
  · obtain rfl : j = k := by omega
    rw [List.getElem?_eq_getElem h1] at hx
    rw [List.getElem?_eq_getElem h2] at hy
    injection hx with hx
    injection hy with hy
    rw [← hx, ← hy]
    exact h

theorem c_eqInt64S (A B : Option Addr) (n m ca cb K : Nat) (xs ys : List Int) (w : World) (h : Slc (Value.int .i64) w K A n xs) (h' : Slc (Value.int .i64) w K B m ys) (hn : n ≤ 1048576) (hm : m ≤ 1048576) :
    Calls Try.prog 34 #[.slice A n ca, .slice B m cb] w fun e w' => e = .returned (.bool (decide (xs = ys))) ∧ ∃ n, w' = w.drewN n := by
  obtain rfl := h.1
  obtain rfl := h'.1
  have HS := Lib.hid h
  have HT := Lib.hid h'
  clear h h'
  by_cases hl : xs.length = ys.length
  · have hne : ((xs.length : Int) != (ys.length : Int)) = false := by simp [hl]
    have HL := Lib.hid hl
    clear hl
    go_enter Try.func34, Try.ntmps34
    go_wp2_with fail
    go_loopw [5] (fun i wr => ∃ k : Nat, k ≤ xs.length ∧ i = .int .i64 k ∧ Hid (∀ (j : Nat) (x y : Int), j < k → xs[j]? = some x → ys[j]? = some y → x = y) ∧ ∃ m, wr = w.drewN m) (fun i _ => xs.length - (intOf i).toNat)
    case atStart => exact ⟨0, Nat.zero_le _, rfl, fun _ _ _ h => absurd h (by omega), 0, rfl⟩
    case round =>
      obtain ⟨k, hk, rfl, hall, m, rfl⟩ := hrel
      by_cases hlt : k < xs.length
      · have hlt' : k < ys.length := by have := HL.out; omega
        obtain ⟨b, off, rfl, _, hc⟩ := HS.out.2 (by omega)
        obtain ⟨b', off', rfl, _, hc'⟩ := HT.out.2 (by omega)
        have hc1 := hc k xs[k] (List.getElem?_eq_getElem hlt)
        have hc2 := hc' k ys[k] (List.getElem?_eq_getElem hlt')
        clear hc hc'
        have i4 : (k : Int) < (xs.length : Int) := by omega
        have i5 : (k : Int) < (ys.length : Int) := by omega
        by_cases hxy : xs[k] = ys[k]
        · have HX := Lib.hid (two_succ (R := (· = ·)) hall.out hlt hlt' hxy)
          have e1 : (xs[k] != ys[k]) = false := by simp [hxy]
          generalize xs[k] = x at *
          generalize ys[k] = y at *
          clear hxy
          go_wp2_with fail
          try simp only [List.append_eq, List.cons_append, List.nil_append]
          refine wp_region_drawnC (by kernel_rfl) (by kernel_rfl) ?_
          repeat (first | (refine wpFree_skip rfl ?_; try go_simp) | (refine wpFree_want rfl (fun K hK => ?_); first | (refine free_fbin drawn_draw rfl rfl _ _ _ rfl rfl ?_; intro z hz hzw; go_simp; refine hK _ ?_; clear hK K) | (intro wq hq; obtain ⟨hqc, hqf, hqh⟩ := drawn_cells hq; go_simp; first | (refine hK _ ?_; clear hK K; try clear hqc hqf; try clear hqh; try clear hq; try clear wq) | fail)))
          refine wpFree_nil ?_
          intro wq hq
          obtain ⟨nq, rfl⟩ := hq
          go_wp2_with fail
          go_roundw
          case rel => exact ⟨k + 1, by omega, by go_num, HX, by (first | exact ⟨_, rfl⟩ | exact ⟨0, rfl⟩ | exact ⟨_, World.drewN_drewN _ _ _⟩ | (simp only [World.drewN_drewN]; exact ⟨_, rfl⟩))⟩
          case measure => simp [intOf]; omega
        · have HX := Lib.hid (eq_not (List.getElem?_eq_getElem hlt) (List.getElem?_eq_getElem hlt') hxy)
          have e1 : (xs[k] != ys[k]) = true := by simp [hxy]
          generalize xs[k] = x at *
          generalize ys[k] = y at *
          clear hxy
          go_wp2_with fail
          try simp only [List.append_eq, List.cons_append, List.nil_append]
          refine wp_region_drawnC (by kernel_rfl) (by kernel_rfl) ?_
          repeat (first | (refine wpFree_skip rfl ?_; try go_simp) | (refine wpFree_want rfl (fun K hK => ?_); first | (refine free_fbin drawn_draw rfl rfl _ _ _ rfl rfl ?_; intro z hz hzw; go_simp; refine hK _ ?_; clear hK K) | (intro wq hq; obtain ⟨hqc, hqf, hqh⟩ := drawn_cells hq; go_simp; first | (refine hK _ ?_; clear hK K; try clear hqc hqf; try clear hqh; try clear hq; try clear wq) | fail)))
          refine wpFree_nil ?_
          intro wq hq
          obtain ⟨nq, rfl⟩ := hq
          go_wp2_with fail
          go_ret
          exact ⟨by rw [decide_eq_false HX.out]; rfl, by (first | exact ⟨_, rfl⟩ | exact ⟨0, rfl⟩ | exact ⟨_, World.drewN_drewN _ _ _⟩ | (simp only [World.drewN_drewN]; exact ⟨_, rfl⟩))⟩
      · have HE := Lib.hid (eq_all HL.out fun j x y hj hx hy => hall.out j x y (by omega) hx hy)
        go_wp2_with fail
        go_ret
        exact ⟨by rw [decide_eq_true HE.out]; rfl, _, rfl⟩
  · have HE : Hid (xs ≠ ys) := fun e => hl (by rw [e])
    have hne : ((xs.length : Int) != (ys.length : Int)) = true := by rw [bne_iff_ne]; omega
    clear hl
    go_enter Try.func34, Try.ntmps34
    go_wp2_with fail
    go_ret
    exact ⟨by rw [decide_eq_false HE.out]; rfl, 0, rfl⟩


end Go.Proofs.Ytebhefbpkcpnjaa
