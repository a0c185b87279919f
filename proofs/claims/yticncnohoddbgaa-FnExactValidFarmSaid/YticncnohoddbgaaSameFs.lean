/-
  CONTRACTS: lists of floats that are the same.
-/
import Derived.Test.YticncnohoddbgaaOwn2
namespace Go.Proofs.Yticncnohoddbgaa
open Go.RowKit Go.Flt
set_option linter.unusedVariables false
set_option maxRecDepth 100000
set_option linter.unusedSimpArgs false

def sameFs (xs ys : List Nat) : Bool := decide (xs.map (cl .f32) = ys.map (cl .f32))

theorem cl2_succ {xs ys : List Nat} {k : Nat} (hall : ∀ (j : Nat) (x y : Nat), j < k → xs[j]? = some x → ys[j]? = some y → cl .f32 x = cl .f32 y) (h1 : k < xs.length) (h2 : k < ys.length) (h : cl .f32 xs[k] = cl .f32 ys[k]) :
    ∀ (j : Nat) (x y : Nat), j < k + 1 → xs[j]? = some x → ys[j]? = some y → cl .f32 x = cl .f32 y := fun j x y hj hx hy => by
  rcases Nat.lt_or_ge j k with h' | h'
  · exact hall j x y h' hx hy
  · obtain rfl : j = k := by omega
    rw [List.getElem?_eq_getElem h1] at hx
    rw [List.getElem?_eq_getElem h2] at hy
    injection hx with hx
    injection hy with hy
    rw [← hx, ← hy]
    exact h

theorem sameFs_all {xs ys : List Nat} (hl : xs.length = ys.length) (h : ∀ (j : Nat) (x y : Nat), j < xs.length → xs[j]? = some x → ys[j]? = some y → cl .f32 x = cl .f32 y) : sameFs xs ys = true := by
  unfold sameFs
  rw [decide_eq_true_eq]
  apply List.ext_getElem (by simpa using hl)
  intro i h1 h2
  simp only [List.length_map] at h1 h2
  simp only [List.getElem_map]
  exact h i _ _ h1 (List.getElem?_eq_getElem h1) (List.getElem?_eq_getElem h2)

theorem sameFs_not {xs ys : List Nat} {k : Nat} (h1 : k < xs.length) (h2 : k < ys.length) (h : same .f32 xs[k] ys[k] = false) : sameFs xs ys = false := by
  unfold sameFs same at *
  rw [decide_eq_false_iff_not] at h ⊢
  exact fun e => h (map_at e h1 h2)

theorem sameFs_len {xs ys : List Nat} (h : xs.length ≠ ys.length) : sameFs xs ys = false := by
  unfold sameFs
  rw [decide_eq_false_iff_not]
  intro e
  exact h (by simpa using congrArg List.length e)

set_option maxHeartbeats 1000000 in
theorem c_l01SameAll (A B : Option Addr) (n m ca cb K : Nat) (xs ys : List Nat) (w : World) (h : Fl w K A n xs) (h' : Fl w K B m ys) (hn : n ≤ 1048576) (hm : m ≤ 1048576) (fx : ∀ x ∈ xs, fits x) (fy : ∀ y ∈ ys, fits y) :
    Calls Try.prog 87 #[.slice A n ca, .slice B m cb] w fun e w' => e = .returned (.bool (sameFs xs ys)) ∧ ∃ n, w' = w.drewN n := by
  obtain rfl := h.1
  obtain rfl := h'.1
  have HS := Lib.hid h
  have HT := Lib.hid h'
  have FX := Lib.hid fx
  have FY := Lib.hid fy
  clear h h' fx fy
  by_cases hl : xs.length = ys.length
  · have hne : ((xs.length : Int) != (ys.length : Int)) = false := by simp [hl]
    have HL := Lib.hid hl
    clear hl
    go_enter Try.func87, Try.ntmps87
    go_wp2_with fail
    go_loopw [5] (fun i wr => ∃ k : Nat, k ≤ xs.length ∧ i = .int .i64 k ∧ Hid (∀ (j : Nat) (x y : Nat), j < k → xs[j]? = some x → ys[j]? = some y → cl .f32 x = cl .f32 y) ∧ ∃ m, wr = w.drewN m) (fun i _ => xs.length - (intOf i).toNat)
    case atStart => exact ⟨0, Nat.zero_le _, rfl, fun _ _ _ h => absurd h (by omega), 0, rfl⟩
    case round =>
      obtain ⟨k, hk, rfl, hall, m, rfl⟩ := hrel
      by_cases hlt : k < xs.length
      · have hlt' : k < ys.length := by have := HL.out; omega
        obtain ⟨b, off, rfl, _, hc⟩ := HS.out.2 (by omega)
        obtain ⟨b', off', rfl, _, hc'⟩ := HT.out.2 (by omega)
        have hc1 := hc k xs[k] (List.getElem?_eq_getElem hlt)
        have hc2 := hc' k ys[k] (List.getElem?_eq_getElem hlt')
        clear hc hc'
        have i3 : (0 : Int) ≤ (k : Int) := by omega
        have i4 : (k : Int) < (xs.length : Int) := by omega
        have i5 : (k : Int) < (ys.length : Int) := by omega
        have i6 : IntKind.i64.wrap (k : Int) = (k : Int) := by rw [IntKind.wrap_i64]; omega
        have HC := Lib.hid (fun w => c_l01Same xs[k] ys[k] w (FX.out _ (List.getElem_mem hlt)) (FY.out _ (List.getElem_mem hlt')))
        have HY := Lib.hid (fun h => sameFs_not (xs := xs) (ys := ys) hlt hlt' h)
        have HN := Lib.hid (fun h => cl2_succ hall.out hlt hlt' h)
        clear hall
        generalize xs[k] = x at *
        generalize ys[k] = y at *
        cases hs : same .f32 x y
        · have HX := Lib.hid (HY.out hs)
          go_wp2_with fail
          try simp only [List.append_eq, List.cons_append, List.nil_append]
          refine wp_region_drawnC (by kernel_rfl) (by kernel_rfl) ?_
          repeat (first | (refine wpFree_skip rfl ?_; try go_simp) | (refine wpFree_want rfl (fun K hK => ?_); first | (refine free_fbin drawn_draw rfl rfl _ _ _ rfl rfl ?_; intro z hz hzw; go_simp; refine hK _ ?_; clear hK K) | (intro wq hq; obtain ⟨hqc, hqf, hqh⟩ := drawn_cells hq; go_simp; first | (refine hK _ ?_; clear hK K; try clear hqc hqf; try clear hqh; try clear hq; try clear wq) | ((with_reducible refine free_at 88 ?_); refine free_v _ (by kernel_rfl) (fun wr hr => (HC.out _).mono fun e w'' ⟨he, hw⟩ => ⟨he, drawn_trans hr hw⟩) ?_; refine hK _ ?_; clear hK K; try clear hqc hqf; try clear hqh; try clear hq; try clear wq))))
          refine wpFree_nil ?_
          intro wq hq
          obtain ⟨nq, rfl⟩ := hq
          go_wp2_with fail
          go_ret
          exact ⟨by rw [HX.out]; rfl, by (first | exact ⟨_, rfl⟩ | exact ⟨0, rfl⟩ | exact ⟨_, World.drewN_drewN _ _ _⟩ | (simp only [World.drewN_drewN]; exact ⟨_, rfl⟩))⟩
        · have HX := Lib.hid (HN.out (of_decide_eq_true hs))
          go_wp2_with fail
          try simp only [List.append_eq, List.cons_append, List.nil_append]
          refine wp_region_drawnC (by kernel_rfl) (by kernel_rfl) ?_
          repeat (first | (refine wpFree_skip rfl ?_; try go_simp) | (refine wpFree_want rfl (fun K hK => ?_); first | (refine free_fbin drawn_draw rfl rfl _ _ _ rfl rfl ?_; intro z hz hzw; go_simp; refine hK _ ?_; clear hK K) | (intro wq hq; obtain ⟨hqc, hqf, hqh⟩ := drawn_cells hq; go_simp; first | (refine hK _ ?_; clear hK K; try clear hqc hqf; try clear hqh; try clear hq; try clear wq) | ((with_reducible refine free_at 88 ?_); refine free_v _ (by kernel_rfl) (fun wr hr => (HC.out _).mono fun e w'' ⟨he, hw⟩ => ⟨he, drawn_trans hr hw⟩) ?_; refine hK _ ?_; clear hK K; try clear hqc hqf; try clear hqh; try clear hq; try clear wq))))
          refine wpFree_nil ?_
          intro wq hq
          obtain ⟨nq, rfl⟩ := hq
          go_wp2_with fail
          go_roundw
          case rel => exact ⟨k + 1, by omega, by go_num, HX, by (first | exact ⟨_, rfl⟩ | exact ⟨0, rfl⟩ | exact ⟨_, World.drewN_drewN _ _ _⟩ | (simp only [World.drewN_drewN]; exact ⟨_, rfl⟩))⟩
          case measure => simp [intOf]; omega
      · have HE := Lib.hid (sameFs_all HL.out fun j x y hj hx hy => hall.out j x y (by omega) hx hy)
        go_wp2_with fail
        go_ret
        exact ⟨by rw [HE.out]; rfl, _, rfl⟩
  · have HE := Lib.hid (sameFs_len hl)
    have hne : ((xs.length : Int) != (ys.length : Int)) = true := by rw [bne_iff_ne]; omega
    clear hl
    go_enter Try.func87, Try.ntmps87
    go_wp2_with fail
    go_ret
    exact ⟨by rw [HE.out]; rfl, 0, rfl⟩

set_option maxHeartbeats 1000000 in
theorem c_EqualFunc (A B : Option Addr) (n m ca cb K : Nat) (xs ys : List Nat) (w : World) (h : Fl w K A n xs) (h' : Fl w K B m ys) (hn : n ≤ 1048576) (hm : m ≤ 1048576) :
    Calls Try.prog 89 #[.slice A n ca, .slice B m cb, .func (.func 69) #[] #[]] w fun e w' => e = .returned (.bool (sameFs xs ys)) ∧ ∃ n, w' = w.drewN n := by
  obtain rfl := h.1
  obtain rfl := h'.1
  have HS := Lib.hid h
  have HT := Lib.hid h'
  clear h h'
  by_cases hl : xs.length = ys.length
  · have hne : ((xs.length : Int) != (ys.length : Int)) = false := by simp [hl]
    have HL := Lib.hid hl
    clear hl
    go_enter Try.func89, Try.ntmps89
    go_wp2_with fail
    go_loopw [17] (fun i wr => ∃ k : Nat, k ≤ xs.length ∧ i = .int .i64 k ∧ Hid (∀ (j : Nat) (x y : Nat), j < k → xs[j]? = some x → ys[j]? = some y → cl .f32 x = cl .f32 y) ∧ ∃ m, wr = w.drewN m) (fun i _ => xs.length - (intOf i).toNat)
    case atStart => exact ⟨0, Nat.zero_le _, rfl, fun _ _ _ h => absurd h (by omega), 0, rfl⟩
    case round =>
      obtain ⟨k, hk, rfl, hall, m, rfl⟩ := hrel
      by_cases hlt : k < xs.length
      · have hlt' : k < ys.length := by have := HL.out; omega
        obtain ⟨b, off, rfl, _, hc⟩ := HS.out.2 (by omega)
        obtain ⟨b', off', rfl, _, hc'⟩ := HT.out.2 (by omega)
        have hc1 := hc k xs[k] (List.getElem?_eq_getElem hlt)
        have hc2 := hc' k ys[k] (List.getElem?_eq_getElem hlt')
        clear hc hc'
        have i3 : (0 : Int) ≤ (k : Int) := by omega
        have i4 : (k : Int) < (xs.length : Int) := by omega
        have i5 : (k : Int) < (ys.length : Int) := by omega
        have i6 : IntKind.i64.wrap (k : Int) = (k : Int) := by rw [IntKind.wrap_i64]; omega
        have HY := Lib.hid (fun h => sameFs_not (xs := xs) (ys := ys) hlt hlt' h)
        have HN := Lib.hid (fun h => cl2_succ hall.out hlt hlt' h)
        clear hall
        generalize xs[k] = x at *
        generalize ys[k] = y at *
        cases hs : same .f32 x y
        · have HX := Lib.hid (HY.out hs)
          go_wp2_with (go_at_call 69; refine (c_SameNumber _ _ _).mono ?_; rintro e w' ⟨rfl, nq, rfl⟩)
          go_ret
          exact ⟨by rw [HX.out]; rfl, by (first | exact ⟨_, rfl⟩ | exact ⟨0, rfl⟩ | exact ⟨_, World.drewN_drewN _ _ _⟩ | (simp only [World.drewN_drewN]; exact ⟨_, rfl⟩))⟩
        · have HX := Lib.hid (HN.out (of_decide_eq_true hs))
          go_wp2_with (go_at_call 69; refine (c_SameNumber _ _ _).mono ?_; rintro e w' ⟨rfl, nq, rfl⟩)
          go_roundw
          case rel => exact ⟨k + 1, by omega, by go_num, HX, by (first | exact ⟨_, rfl⟩ | exact ⟨0, rfl⟩ | exact ⟨_, World.drewN_drewN _ _ _⟩ | (simp only [World.drewN_drewN]; exact ⟨_, rfl⟩))⟩
          case measure => simp [intOf]; omega
      · have HE := Lib.hid (sameFs_all HL.out fun j x y hj hx hy => hall.out j x y (by omega) hx hy)
        go_wp2_with fail
        go_ret
        exact ⟨by rw [HE.out]; rfl, _, rfl⟩
  · have HE := Lib.hid (sameFs_len hl)
    have hne : ((xs.length : Int) != (ys.length : Int)) = true := by rw [bne_iff_ne]; omega
    clear hl
    go_enter Try.func89, Try.ntmps89
    go_wp2_with fail
    go_ret
    exact ⟨by rw [HE.out]; rfl, 0, rfl⟩

theorem c_sameNumbers (A B : Option Addr) (n m ca cb K : Nat) (xs ys : List Nat) (w : World) (h : Fl w K A n xs) (h' : Fl w K B m ys) (hn : n ≤ 1048576) (hm : m ≤ 1048576) :
    Calls Try.prog 68 #[.slice A n ca, .slice B m cb] w fun e w' => e = .returned (.bool (sameFs xs ys)) ∧ ∃ n, w' = w.drewN n := by
  have H := Lib.hid (fun ca cb => c_EqualFunc A B n m ca cb K xs ys w h h' hn hm)
  clear h h'
  go_enter Try.func68, Try.ntmps68
  go_wp2_with (go_at_call 89; refine (H.out _ _).mono ?_; rintro e w' ⟨rfl, nq, rfl⟩)
  go_ret
  exact ⟨rfl, _, rfl⟩

/-- A list that came in. -/
def LIn (w : World) (K : Nat) (A : Option Addr) (n : Nat) (xs : List Nat) : Prop := Fl w K A n xs ∧ n ≤ 1048576 ∧ ∀ x ∈ xs, fits x

theorem LIn.grew {w w' : World} {K n : Nat} {A : Option Addr} {xs : List Nat} (h : LIn w K A n xs) (hK : K ≤ w.heap.size) (hg : Grew w w') : LIn w' K A n xs :=
  ⟨Slc.grew (g := Value.float .f32) h.1 hK hg, h.2⟩

theorem c_l01SameAll' (A B : Option Addr) (n m ca cb K : Nat) (xs ys : List Nat) (w : World) (h : LIn w K A n xs) (h' : LIn w K B m ys) :
    Calls Try.prog 87 #[.slice A n ca, .slice B m cb] w fun e w' => e = .returned (.bool (sameFs xs ys)) ∧ ∃ n, w' = w.drewN n := c_l01SameAll A B n m ca cb K xs ys w h.1 h'.1 h.2.1 h'.2.1 h.2.2 h'.2.2

theorem c_sameNumbers' (A B : Option Addr) (n m ca cb K : Nat) (xs ys : List Nat) (w : World) (h : LIn w K A n xs) (h' : LIn w K B m ys) :
    Calls Try.prog 68 #[.slice A n ca, .slice B m cb] w fun e w' => e = .returned (.bool (sameFs xs ys)) ∧ ∃ n, w' = w.drewN n := c_sameNumbers A B n m ca cb K xs ys w h.1 h'.1 h.2.1 h'.2.1

end Go.Proofs.Yticncnohoddbgaa
