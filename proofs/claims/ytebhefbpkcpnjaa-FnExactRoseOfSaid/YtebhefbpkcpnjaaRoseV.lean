/-
  CONTRACTS: when a rose is valid.
-/
import Derived.Test.YtebhefbpkcpnjaaRose
import Derived.Test.YtebhefbpkcpnjaaSl2
namespace Go.Proofs.Ytebhefbpkcpnjaa
open Go.RowKit Go.Flt
set_option linter.unusedVariables false
set_option maxRecDepth 100000
set_option linter.unusedSimpArgs false

/-- A rose's numbers, by their data. -/
def vRoseD (D E : List Ieee.Datum) : Bool := decide (1 ≤ D.length) && decide (D.length ≤ 16) && decide (E.length = D.length) && D.all least && E.all least

def vRose (xs ys : List Nat) : Bool := vRoseD (xs.map (cl .f32)) (ys.map (cl .f32))

theorem vRose_eq (xs ys : List Nat) : vRose xs ys = (decide (1 ≤ xs.length) && decide (xs.length ≤ 16) && decide (ys.length = xs.length) && (xs.all fun x => least (cl .f32 x)) && (ys.all fun x => least (cl .f32 x))) := by
  unfold vRose vRoseD
  simp only [List.length_map, List.all_map, Function.comp_def]

set_option maxHeartbeats 1000000 in
theorem c_implValidRose (A C : Option Addr) (n cA m cC K : Nat) (xs ys : List Nat) (w : World) (hx : Fl w K A n xs) (hy : Fl w K C m ys) (hK : K ≤ w.heap.size) (hn : n ≤ maxLen) (hm : m ≤ maxLen) :
    Calls Try.prog 52 #[.agg #[.slice A n cA, .slice C m cC]] w fun e w' => e = .returned (.bool (vRose xs ys)) ∧ Grew w w' := by
  obtain rfl := hx.1
  obtain rfl := hy.1
  have HX := Lib.hid (fun w' h => c_impl.areLeast A _ cA K xs w' (Slc.grew (g := Value.float .f32) (w' := w') hx hK h) hn)
  have HY := Lib.hid (fun w' h => c_impl.areLeast C _ cC K ys w' (Slc.grew (g := Value.float .f32) (w' := w') hy hK h) hm)
  have HE := Lib.hid (vRose_eq xs ys)
  clear hx hy hn hm
  cases c1 : decide ((1 : Int) ≤ (xs.length : Int))
  case false =>
    have h1 : decide (1 ≤ xs.length) = false := decide_eq_false (by have := of_decide_eq_false c1; omega)
    go_enter Try.func52, Try.ntmps52
    go_wp2_with fail
    go_ret
    exact ⟨by rw [HE.out, h1]; rfl, by (show Below _ _ _; (repeat (first | exact Below.refl _ _ | refine ext_below ?_ (by first | omega | (simp only [size_ext, heap_push, Array.size_push, World.heap_drewN]; omega) | (simp; omega)) _ _ | refine below_draws ?_ _ | refine Below.alloc ?_ (by first | omega | (simp; done) | (simp; omega)) _ | refine Below.setCell ?_ (by first | omega | (simp; done) | (simp; omega)) _ | refine below_then (by assumption) (by first | omega | (simp; done) | (simp; omega)) ?_)))⟩
  cases c2 : decide ((xs.length : Int) ≤ 16)
  case false =>
    have h1 : decide (xs.length ≤ 16) = false := decide_eq_false (by have := of_decide_eq_false c2; omega)
    go_enter Try.func52, Try.ntmps52
    go_wp2_with fail
    go_ret
    exact ⟨by rw [HE.out, h1]; simp, by (show Below _ _ _; (repeat (first | exact Below.refl _ _ | refine ext_below ?_ (by first | omega | (simp only [size_ext, heap_push, Array.size_push, World.heap_drewN]; omega) | (simp; omega)) _ _ | refine below_draws ?_ _ | refine Below.alloc ?_ (by first | omega | (simp; done) | (simp; omega)) _ | refine Below.setCell ?_ (by first | omega | (simp; done) | (simp; omega)) _ | refine below_then (by assumption) (by first | omega | (simp; done) | (simp; omega)) ?_)))⟩
  cases c3 : ((ys.length : Int) == (xs.length : Int))
  case false =>
    have h1 : decide (ys.length = xs.length) = false := decide_eq_false (by simp at c3; omega)
    go_enter Try.func52, Try.ntmps52
    go_wp2_with fail
    go_ret
    exact ⟨by rw [HE.out, h1]; simp, by (show Below _ _ _; (repeat (first | exact Below.refl _ _ | refine ext_below ?_ (by first | omega | (simp only [size_ext, heap_push, Array.size_push, World.heap_drewN]; omega) | (simp; omega)) _ _ | refine below_draws ?_ _ | refine Below.alloc ?_ (by first | omega | (simp; done) | (simp; omega)) _ | refine Below.setCell ?_ (by first | omega | (simp; done) | (simp; omega)) _ | refine below_then (by assumption) (by first | omega | (simp; done) | (simp; omega)) ?_)))⟩
  have k1 : decide (1 ≤ xs.length) = true := decide_eq_true (by have := of_decide_eq_true c1; omega)
  have k2 : decide (xs.length ≤ 16) = true := decide_eq_true (by have := of_decide_eq_true c2; omega)
  have k3 : decide (ys.length = xs.length) = true := decide_eq_true (by simp at c3; omega)
  have HE2 : Hid (vRose xs ys = ((xs.all fun x => least (cl .f32 x)) && (ys.all fun x => least (cl .f32 x)))) := by
    show vRose xs ys = _
    rw [HE.out, k1, k2, k3]
    rfl
  clear k1 k2 k3 HE
  cases c4 : xs.all fun x => least (cl .f32 x)
  · go_enter Try.func52, Try.ntmps52
    go_wp2_with fail
    refine (HX.out _ (by (show Below _ _ _; (repeat (first | exact Below.refl _ _ | refine ext_below ?_ (by first | omega | (simp only [size_ext, heap_push, Array.size_push, World.heap_drewN]; omega) | (simp; omega)) _ _ | refine below_draws ?_ _ | refine Below.alloc ?_ (by first | omega | (simp; done) | (simp; omega)) _ | refine Below.setCell ?_ (by first | omega | (simp; done) | (simp; omega)) _ | refine below_then (by assumption) (by first | omega | (simp; done) | (simp; omega)) ?_))))).mono ?_
    rintro e w' ⟨rfl, nq, rfl⟩
    go_wp2_with fail
    go_ret
    exact ⟨by rw [HE2.out, c4]; rfl, by (show Below _ _ _; (repeat (first | exact Below.refl _ _ | refine ext_below ?_ (by first | omega | (simp only [size_ext, heap_push, Array.size_push, World.heap_drewN]; omega) | (simp; omega)) _ _ | refine below_draws ?_ _ | refine Below.alloc ?_ (by first | omega | (simp; done) | (simp; omega)) _ | refine Below.setCell ?_ (by first | omega | (simp; done) | (simp; omega)) _ | refine below_then (by assumption) (by first | omega | (simp; done) | (simp; omega)) ?_)))⟩
  · go_enter Try.func52, Try.ntmps52
    go_wp2_with fail
    refine (HX.out _ (by (show Below _ _ _; (repeat (first | exact Below.refl _ _ | refine ext_below ?_ (by first | omega | (simp only [size_ext, heap_push, Array.size_push, World.heap_drewN]; omega) | (simp; omega)) _ _ | refine below_draws ?_ _ | refine Below.alloc ?_ (by first | omega | (simp; done) | (simp; omega)) _ | refine Below.setCell ?_ (by first | omega | (simp; done) | (simp; omega)) _ | refine below_then (by assumption) (by first | omega | (simp; done) | (simp; omega)) ?_))))).mono ?_
    rintro e w' ⟨rfl, nq, rfl⟩
    go_wp2_with fail
    refine (HY.out _ (by (show Below _ _ _; (repeat (first | exact Below.refl _ _ | refine ext_below ?_ (by first | omega | (simp only [size_ext, heap_push, Array.size_push, World.heap_drewN]; omega) | (simp; omega)) _ _ | refine below_draws ?_ _ | refine Below.alloc ?_ (by first | omega | (simp; done) | (simp; omega)) _ | refine Below.setCell ?_ (by first | omega | (simp; done) | (simp; omega)) _ | refine below_then (by assumption) (by first | omega | (simp; done) | (simp; omega)) ?_))))).mono ?_
    rintro e w' ⟨rfl, nq2, rfl⟩
    go_wp2_with fail
    go_ret
    exact ⟨by rw [HE2.out, c4]; rfl, by (show Below _ _ _; (repeat (first | exact Below.refl _ _ | refine ext_below ?_ (by first | omega | (simp only [size_ext, heap_push, Array.size_push, World.heap_drewN]; omega) | (simp; omega)) _ _ | refine below_draws ?_ _ | refine Below.alloc ?_ (by first | omega | (simp; done) | (simp; omega)) _ | refine Below.setCell ?_ (by first | omega | (simp; done) | (simp; omega)) _ | refine below_then (by assumption) (by first | omega | (simp; done) | (simp; omega)) ?_)))⟩

theorem least_no {xs ys : List Nat} {k : Nat} (hk : k < xs.length) (hl : ys.length = xs.length) (h : (least (cl .f32 (xs.getD k 0)) && least (cl .f32 (ys.getD k 0))) = false) : vRose xs ys = false := by
  rw [vRose_eq]
  rw [Bool.and_eq_false_iff] at h
  rcases h with h | h
  · have : (xs.all fun x => least (cl .f32 x)) = false := by
      rw [List.all_eq_false]
      exact ⟨xs[k], List.getElem_mem hk, by simpa [List.getD, hk] using h⟩
    rw [this]
    simp
  · have hk' : k < ys.length := by omega
    have : (ys.all fun x => least (cl .f32 x)) = false := by
      rw [List.all_eq_false]
      exact ⟨ys[k], List.getElem_mem hk', by simpa [List.getD, hk'] using h⟩
    rw [this]
    simp

theorem least_all {xs ys : List Nat} (h1 : 1 ≤ xs.length) (h2 : xs.length ≤ 16) (hl : ys.length = xs.length) (h : ∀ k, k < xs.length → least (cl .f32 (xs.getD k 0)) = true ∧ least (cl .f32 (ys.getD k 0)) = true) : vRose xs ys = true := by
  rw [vRose_eq]
  simp only [h1, h2, hl, decide_true, Bool.true_and, Bool.and_eq_true, List.all_eq_true]
  constructor
  · intro x hx
    obtain ⟨k, hk, rfl⟩ := List.getElem_of_mem hx
    simpa [List.getD, hk] using (h k hk).1
  · intro x hx
    obtain ⟨k, hk, rfl⟩ := List.getElem_of_mem hx
    simpa [List.getD, hk] using (h k (by omega)).2

set_option maxHeartbeats 2000000 in
theorem c_l04Rose (b : Nat) (A C : Option Addr) (n cA m cC K : Nat) (xs ys : List Nat) (w : World) (hf : RoAt w b (.slice A n cA) (.slice C m cC)) (hx : Fl w K A n xs) (hy : Fl w K C m ys) :
    Calls Try.prog 49 #[.pointer (some ⟨b, 0, none⟩)] w fun e w' => e = .returned (.bool (vRose xs ys)) ∧ ∃ n, w' = w.drewN n := by
  obtain rfl := hx.1
  obtain rfl := hy.1
  have HX := Lib.hid hx
  have HY := Lib.hid hy
  clear hx hy
  obtain ⟨p0, p1⟩ := hf
  have HE := Lib.hid (vRose_eq xs ys)
  cases c1 : decide ((xs.length : Int) < 1)
  case true =>
    have h1 : decide (1 ≤ xs.length) = false := decide_eq_false (by have := of_decide_eq_true c1; omega)
    go_enter Try.func49, Try.ntmps49
    go_wp2_with fail
    go_ret
    exact ⟨by rw [HE.out, h1]; rfl, by (first | exact ⟨_, rfl⟩ | exact ⟨0, rfl⟩ | exact ⟨_, World.drewN_drewN _ _ _⟩ | (simp only [World.drewN_drewN]; exact ⟨_, rfl⟩))⟩
  cases c2 : decide ((16 : Int) < (xs.length : Int))
  case true =>
    have h1 : decide (xs.length ≤ 16) = false := decide_eq_false (by have := of_decide_eq_true c2; omega)
    go_enter Try.func49, Try.ntmps49
    go_wp2_with fail
    go_ret
    exact ⟨by rw [HE.out, h1]; simp, by (first | exact ⟨_, rfl⟩ | exact ⟨0, rfl⟩ | exact ⟨_, World.drewN_drewN _ _ _⟩ | (simp only [World.drewN_drewN]; exact ⟨_, rfl⟩))⟩
  cases c3 : ((ys.length : Int) != (xs.length : Int))
  case true =>
    have h1 : decide (ys.length = xs.length) = false := decide_eq_false (by simp at c3; omega)
    go_enter Try.func49, Try.ntmps49
    go_wp2_with fail
    go_ret
    exact ⟨by rw [HE.out, h1]; simp, by (first | exact ⟨_, rfl⟩ | exact ⟨0, rfl⟩ | exact ⟨_, World.drewN_drewN _ _ _⟩ | (simp only [World.drewN_drewN]; exact ⟨_, rfl⟩))⟩
  have k1 : 1 ≤ xs.length := by have := of_decide_eq_false c1; omega
  have k2 : xs.length ≤ 16 := by have := of_decide_eq_false c2; omega
  have k3 : ys.length = xs.length := by simp at c3; omega
  have K3 := Lib.hid k3
  have K1 := Lib.hid k1
  have K2 := Lib.hid k2
  clear HE
  go_enter Try.func49, Try.ntmps49
  go_wp2_with fail
  go_loopw [4] (fun i wr => ∃ k : Nat, k ≤ xs.length ∧ i = .int .i64 k ∧ Hid (∀ j, j < k → least (cl .f32 (xs.getD j 0)) = true ∧ least (cl .f32 (ys.getD j 0)) = true) ∧ ∃ m, wr = w.drewN m) (fun i _ => xs.length - (intOf i).toNat)
  case atStart => exact ⟨0, Nat.zero_le _, rfl, fun _ h => absurd h (by omega), by (first | exact ⟨_, rfl⟩ | exact ⟨0, rfl⟩ | exact ⟨_, World.drewN_drewN _ _ _⟩ | (simp only [World.drewN_drewN]; exact ⟨_, rfl⟩))⟩
  case round =>
    obtain ⟨k, hk, rfl, hall, m, rfl⟩ := hrel
    by_cases hlt : k < xs.length
    · obtain ⟨bx, ox, rfl, _, hc⟩ := HX.out.2 (by omega)
      obtain ⟨by', oy, rfl, _, hc'⟩ := HY.out.2 (by omega)
      have hc1 := hc k (xs.getD k 0) (by simp [hlt])
      have hc2 := hc' k (ys.getD k 0) (by simp [show k < ys.length by omega])
      clear hc hc'
      have i3 : (0 : Int) ≤ (k : Int) := by omega
      have i4 : (k : Int) < (xs.length : Int) := by omega
      have HN := Lib.hid (fun h => least_no (xs := xs) (ys := ys) hlt K3.out h)
      have HA := Lib.hid (fun (h : least (cl .f32 (xs.getD k 0)) = true ∧ least (cl .f32 (ys.getD k 0)) = true) => (fun j (hj : j < k + 1) => (by
        rcases Nat.lt_or_ge j k with h' | h'
        · exact hall.out j h'
        · obtain rfl : j = k := by omega
          exact h : least (cl .f32 (xs.getD j 0)) = true ∧ least (cl .f32 (ys.getD j 0)) = true)))
      clear hall
      generalize xs.getD k 0 = x at *
      generalize ys.getD k 0 = y at *
      cases n1 : least (cl .f32 x)
      · have HF := Lib.hid (HN.out (by rw [n1]; rfl))
        go_wp2_with (go_at_call 87; refine (c_l02Least _ _).mono ?_; rintro e w' ⟨rfl, nq, rfl⟩)
        go_ret
        exact ⟨by rw [HF.out]; rfl, by (first | exact ⟨_, rfl⟩ | exact ⟨0, rfl⟩ | exact ⟨_, World.drewN_drewN _ _ _⟩ | (simp only [World.drewN_drewN]; exact ⟨_, rfl⟩))⟩
      · cases n2 : least (cl .f32 y)
        · have HF := Lib.hid (HN.out (by rw [n1, n2]; rfl))
          go_wp2_with (go_at_call 87; refine (c_l02Least _ _).mono ?_; rintro e w' ⟨rfl, nq, rfl⟩)
          go_ret
          exact ⟨by rw [HF.out]; rfl, by (first | exact ⟨_, rfl⟩ | exact ⟨0, rfl⟩ | exact ⟨_, World.drewN_drewN _ _ _⟩ | (simp only [World.drewN_drewN]; exact ⟨_, rfl⟩))⟩
        · have HF := Lib.hid (HA.out ⟨n1, n2⟩)
          go_wp2_with (go_at_call 87; refine (c_l02Least _ _).mono ?_; rintro e w' ⟨rfl, nq, rfl⟩)
          go_roundw
          case rel => exact ⟨k + 1, by omega, by go_num, HF, by (first | exact ⟨_, rfl⟩ | exact ⟨0, rfl⟩ | exact ⟨_, World.drewN_drewN _ _ _⟩ | (simp only [World.drewN_drewN]; exact ⟨_, rfl⟩))⟩
          case measure => simp [intOf]; omega
    · have HF := Lib.hid (least_all K1.out K2.out K3.out fun j hj => hall.out j (by omega))
      clear hall
      go_wp2_with fail
      go_ret
      exact ⟨by rw [HF.out]; rfl, by (first | exact ⟨_, rfl⟩ | exact ⟨0, rfl⟩ | exact ⟨_, World.drewN_drewN _ _ _⟩ | (simp only [World.drewN_drewN]; exact ⟨_, rfl⟩))⟩

/-- No rose. -/
def ZRO : Value := .agg #[.slice none 0 0, .slice none 0 0]

theorem rose_nil (w : World) (lo hi : Nat) : RoseAt w lo hi ZRO [] [] := ⟨_, _, rfl, rowAt_nil _ _ _, rowAt_nil _ _ _, fun k h => by simp [Value.ownBlock] at h⟩

/-- What a rose is given back as: itself where it is valid, else none. -/
def RetG (v : Value) (ok : Bool) (w : World) (e : Ending) (w' : World) : Prop := e = .returned (.tuple #[if ok then v else ZRO, .bool ok]) ∧ Grew w w'

theorem c_checkedRose (lo hi : Nat) (v : Value) (xs ys : List Nat) (w : World) (h : RoseAt w lo hi v xs ys) (hs : hi ≤ w.heap.size) (hn : xs.length ≤ 1048576) (hm : ys.length ≤ 1048576) :
    Calls Try.prog 55 #[v] w (RetG v (vRose xs ys) w) := by
  obtain ⟨A, c, C, c', rfl, hx, hy⟩ := h.parts
  have HV := Lib.hid (fun w' h => c_implValidRose A C _ c _ c' hi xs ys w' (Slc.grew (g := Value.float .f32) (w' := w') hx hs h) (Slc.grew (g := Value.float .f32) (w' := w') hy hs h) (Nat.le_trans hs (Below.size h)) (by unfold maxLen; omega) (by unfold maxLen; omega))
  clear h hx hy
  generalize vRose xs ys = B at HV
  cases B
  all_goals
    go_enter Try.func55, Try.ntmps55
    go_wp2_with fail
    refine (HV.out _ (by (show Below _ _ _; (repeat (first | exact Below.refl _ _ | refine ext_below ?_ (by first | omega | (simp only [size_ext, heap_push, Array.size_push, World.heap_drewN]; omega) | (simp; omega)) _ _ | refine below_draws ?_ _ | refine Below.alloc ?_ (by first | omega | (simp; done) | (simp; omega)) _ | refine Below.setCell ?_ (by first | omega | (simp; done) | (simp; omega)) _ | refine below_then (by assumption) (by first | omega | (simp; done) | (simp; omega)) ?_))))).mono ?_
    rintro e w1 ⟨rfl, hg1⟩
    have G1 := Lib.hid (grew_trans (show Grew w _ by (show Below _ _ _; (repeat (first | exact Below.refl _ _ | refine ext_below ?_ (by first | omega | (simp only [size_ext, heap_push, Array.size_push, World.heap_drewN]; omega) | (simp; omega)) _ _ | refine below_draws ?_ _ | refine Below.alloc ?_ (by first | omega | (simp; done) | (simp; omega)) _ | refine Below.setCell ?_ (by first | omega | (simp; done) | (simp; omega)) _ | refine below_then (by assumption) (by first | omega | (simp; done) | (simp; omega)) ?_)))) hg1)
    obtain ⟨hbc, hbf⟩ := bcell hg1
    have hsz := Below.size hg1
    simp at hsz
    have s1 : w.heap.size < w1.heap.size := by omega
    have s2 : w.heap.size + 1 < w1.heap.size := by omega
    clear hg1
    go_wp2_with fail
  · exact bodyPost_ret (v := .tuple #[ZRO, .bool false]) (by simp [results, Try.results55, go_sem, hbc, s1, s2, ZRO]) rfl ⟨rfl, Outside.below (lo := w.heap.size) (hi := w.heap.size + 1 + 1) G1.out (by repeat (first | (with_reducible exact Outside.refl _ _ _) | (with_reducible refine Outside.trans ?_ (Outside.mono (outside_set _ _ _ _) ?_ ?_); rotate_left; omega; omega))) (Nat.le_refl _)⟩
  · exact bodyPost_ret (v := .tuple #[.agg #[.slice A xs.length c, .slice C ys.length c'], .bool true]) (by simp [results, Try.results55, go_sem, hbc, s1, s2]) rfl ⟨rfl, Outside.below (lo := w.heap.size) (hi := w.heap.size + 1 + 1) G1.out (by repeat (first | (with_reducible exact Outside.refl _ _ _) | (with_reducible refine Outside.trans ?_ (Outside.mono (outside_set _ _ _ _) ?_ ?_); rotate_left; omega; omega))) (Nat.le_refl _)⟩

theorem c_l04Give (lo hi : Nat) (v : Value) (xs ys : List Nat) (w : World) (h : RoseAt w lo hi v xs ys) (hs : hi ≤ w.heap.size) :
    Calls Try.prog 51 #[v] w (RetG v (vRose xs ys) w) := by
  obtain ⟨A, c, C, c', rfl, hx, hy⟩ := h.parts
  have HV := Lib.hid (fun w' b hf h => c_l04Rose b A C _ c _ c' hi xs ys w' hf (Slc.grew (g := Value.float .f32) (w' := w') hx hs h) (Slc.grew (g := Value.float .f32) (w' := w') hy hs h))
  clear h hx hy
  generalize vRose xs ys = B at HV
  cases B
  all_goals
    go_enter Try.func51, Try.ntmps51
    go_wp2_with fail
    refine (HV.out _ _ (by unfold RoAt; simp) (by (show Below _ _ _; (repeat (first | exact Below.refl _ _ | refine ext_below ?_ (by first | omega | (simp only [size_ext, heap_push, Array.size_push, World.heap_drewN]; omega) | (simp; omega)) _ _ | refine below_draws ?_ _ | refine Below.alloc ?_ (by first | omega | (simp; done) | (simp; omega)) _ | refine Below.setCell ?_ (by first | omega | (simp; done) | (simp; omega)) _ | refine below_then (by assumption) (by first | omega | (simp; done) | (simp; omega)) ?_))))).mono ?_
    rintro e w1 ⟨rfl, nq, rfl⟩
    go_wp2_with fail
  · exact bodyPost_ret (v := .tuple #[ZRO, .bool false]) (by simp [results, Try.results51, go_sem, ZRO]) rfl ⟨rfl, by (show Below _ _ _; (repeat (first | exact Below.refl _ _ | refine ext_below ?_ (by first | omega | (simp only [size_ext, heap_push, Array.size_push, World.heap_drewN]; omega) | (simp; omega)) _ _ | refine below_draws ?_ _ | refine Below.alloc ?_ (by first | omega | (simp; done) | (simp; omega)) _ | refine Below.setCell ?_ (by first | omega | (simp; done) | (simp; omega)) _ | refine below_then (by assumption) (by first | omega | (simp; done) | (simp; omega)) ?_)))⟩
  · exact bodyPost_ret (v := .tuple #[.agg #[.slice A xs.length c, .slice C ys.length c'], .bool true]) (by simp [results, Try.results51, go_sem]) rfl ⟨rfl, by (show Below _ _ _; (repeat (first | exact Below.refl _ _ | refine ext_below ?_ (by first | omega | (simp only [size_ext, heap_push, Array.size_push, World.heap_drewN]; omega) | (simp; omega)) _ _ | refine below_draws ?_ _ | refine Below.alloc ?_ (by first | omega | (simp; done) | (simp; omega)) _ | refine Below.setCell ?_ (by first | omega | (simp; done) | (simp; omega)) _ | refine below_then (by assumption) (by first | omega | (simp; done) | (simp; omega)) ?_)))⟩

end Go.Proofs.Ytebhefbpkcpnjaa
