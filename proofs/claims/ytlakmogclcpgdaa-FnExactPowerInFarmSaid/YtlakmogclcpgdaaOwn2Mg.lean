/-
  CONTRACTS: copies and comparisons of rows of floats.
-/
import Derived.Test.YtlakmogclcpgdaaOwnMg
import Derived.Test.YtlakmogclcpgdaaFlsMg
namespace Go.Proofs.Ytlakmogclcpgdaa
open Go.RowKit Go.Flt
set_option linter.unusedVariables false
set_option maxRecDepth 100000
set_option linter.unusedSimpArgs false

abbrev FRow (w : World) (lo hi : Nat) (v : Value) (xs : List Nat) : Prop := RowAt (Value.float .f32) 22 w lo hi v xs

theorem c_toF (A : Option Addr) (n cap K : Nat) (xs : List Nat) (w : World) (h : Slc (Value.float .f32) w K A n xs) (hK : K ≤ w.heap.size) (hn : n ≤ 1048576) :
    Calls Try.prog 47 #[.slice A n cap] w fun e w' => ∃ v, e = .returned v ∧ FRow w' w.heap.size w'.heap.size v xs ∧ Grew w w' :=
  (c_toFloat32S A n cap K xs w h hK hn).mono fun e w' ⟨b, he, hb, ho, hg⟩ => by
    have hl := h.1
    subst hl
    exact ⟨_, he, ho.rowAt hb ho.lt (by unfold maxLen; omega), hg⟩

theorem c_eqF (lo hi lo' hi' : Nat) (v v' : Value) (xs ys : List Nat) (w : World) (h : FRow w lo hi v xs) (h' : FRow w lo' hi' v' ys) (he : xs.map (cl .f32) = ys.map (cl .f32)) (hn : xs.length ≤ 1048576) :
    Calls Try.prog 34 #[v, v'] w fun e w' => e = .returned (.bool true) ∧ ∃ n, w' = w.drewN n := by
  obtain ⟨A, c, rfl, h1⟩ := h.slc
  obtain ⟨A', c', rfl, h2⟩ := h'.slc
  exact c_eqFloat32S A A' _ _ c c' (hi + hi') xs ys w (h1.mono (by omega)) (h2.mono (by omega)) he hn

end Go.Proofs.Ytlakmogclcpgdaa

/-
  CONTRACTS: how a law measures its arguments.
-/
namespace Go.Proofs.Ytlakmogclcpgdaa
open Go.RowKit Go.Flt
set_option linter.unusedVariables false
set_option maxRecDepth 100000
set_option linter.unusedSimpArgs false

/-- What is left of a law's measure. -/
def sz (left : Int) (n : Nat) : Int := if left - n < 0 then -1 else left - n

theorem c_szFloat32S (A : Option Addr) (n cap : Nat) (left : Int) (w : World) (hn : n ≤ maxLen) (h0 : 0 ≤ left) (h1 : left ≤ 1048576) :
    Calls Try.prog 44 #[.slice A n cap, .int .i64 left] w fun e w' => e = .returned (.int .i64 (sz left n)) ∧ ∃ n, w' = w.drewN n := by
  unfold maxLen at hn
  have i1 : IntKind.i64.wrap (left - (n : Int)) = left - (n : Int) := by rw [IntKind.wrap_i64]; omega
  cases hd : decide (left - (n : Int) < 0)
  all_goals
    have H := Lib.hid hd
    go_enter Try.func44, Try.ntmps44
    go_wp2_with fail
    go_ret
    exact ⟨by have := H.out; simp at this; unfold sz; (first | rw [if_pos this] | rw [if_neg (by omega)]); rfl, 0, rfl⟩


theorem sz_neg (left : Int) (n : Nat) : decide (sz left n < 0) = decide (left - n < 0) := by
  unfold sz
  split
  · simp; omega
  · rfl

theorem sz_ok {left : Int} {n : Nat} (h : (n : Int) ≤ left) : sz left n = left - n := by unfold sz; rw [if_neg (by omega)]

theorem sz_no {left : Int} {n : Nat} (h : ¬ (n : Int) ≤ left) : sz left n = -1 := by unfold sz; rw [if_pos (by omega)]

end Go.Proofs.Ytlakmogclcpgdaa

/-
  CONTRACTS: farms that a law copies, compares, marks.
-/
namespace Go.Proofs.Ytlakmogclcpgdaa
open Go.RowKit Go.Flt
set_option linter.unusedVariables false
set_option maxRecDepth 100000
set_option linter.unusedSimpArgs false

/-- A farm: the slices lie in rows of their own from block lo on, below block hi, in two blocks. -/
def FarmAt (w : World) (lo hi : Nat) (v : Value) (xs ys : List Nat) (r d s : Nat) : Prop :=
  ∃ X Y, v = .agg #[X, Y, .float .f32 r, .float .f32 d, .float .f32 s] ∧ FRow w lo hi X xs ∧ FRow w lo hi Y ys ∧ ∀ k, X.ownBlock = some k → Y.ownBlock ≠ some k

/-- The parts of a farm lie in block b. -/
def FmAt (w : World) (b : Nat) (X Y : Value) (r d s : Nat) : Prop :=
  w.cell? ⟨b, 0, none⟩ = some X ∧ w.cell? ⟨b, 1, none⟩ = some Y ∧ w.cell? ⟨b, 2, none⟩ = some (.float .f32 r) ∧ w.cell? ⟨b, 3, none⟩ = some (.float .f32 d) ∧ w.cell? ⟨b, 4, none⟩ = some (.float .f32 s)

theorem FmAt.grew {w w' : World} {b : Nat} {X Y : Value} {r d s : Nat} (h : FmAt w b X Y r d s) (hb : b < w.heap.size) (hg : Grew w w') : FmAt w' b X Y r d s := by
  obtain ⟨h0, h1, h2, h3, h4⟩ := h
  have hc := (bcell hg).1
  exact ⟨(hc _ _ hb).trans h0, (hc _ _ hb).trans h1, (hc _ _ hb).trans h2, (hc _ _ hb).trans h3, (hc _ _ hb).trans h4⟩

theorem FmAt.drewN {w : World} {b : Nat} {X Y : Value} {r d s : Nat} (h : FmAt w b X Y r d s) (n : Nat) : FmAt (w.drewN n) b X Y r d s := h

theorem c_szFarm (A A' : Option Addr) (n cap n' cap' r d s : Nat) (left : Int) (w : World) (hn : n ≤ maxLen) (hn' : n' ≤ maxLen) (h0 : 0 ≤ left) (h1 : left ≤ 1048576) :
    Calls Try.prog 17 #[.agg #[.slice A n cap, .slice A' n' cap', .float .f32 r, .float .f32 d, .float .f32 s], .int .i64 left] w fun e w' => e = .returned (.int .i64 (if left - n < 0 then -1 else sz (left - n) n')) ∧ Grew w w' := by
  have e0 := sz_neg left n
  have S1 := Lib.hid (fun w => c_szFloat32S A n cap left w hn h0 h1)
  cases hd : decide (left - (n : Int) < 0)
  · rw [hd] at e0
    have hl : ¬ left - (n : Int) < 0 := of_decide_eq_false hd
    have e1 : sz left n = left - n := by unfold sz; rw [if_neg hl]
    rw [if_neg hl]
    have e2 := sz_neg (left - n) n'
    rw [e1] at S1 e0
    have S2 := Lib.hid (fun w => c_szFloat32S A' n' cap' (left - n) w hn' (by omega) (by omega))
    generalize hz : left - (n : Int) = z at *
    clear e1 hd
    cases hd' : decide (z - (n' : Int) < 0)
    all_goals
      rw [hd'] at e2
      have HR := Lib.hid (show sz z n' = if z - (n' : Int) < 0 then -1 else sz z n' by unfold sz; split <;> rfl)
      have HD := Lib.hid hd'
      go_enter Try.func17, Try.ntmps17
      go_wp2_with fail
      refine (S1.out _).mono ?_
      rintro e w' ⟨rfl, nq, rfl⟩
      go_wp2_with fail
      refine (S2.out _).mono ?_
      rintro e w' ⟨rfl, nq2, rfl⟩
      go_wp2_with fail
      go_ret
    · exact ⟨rfl, by (show Below _ _ _; (repeat (first | exact Below.refl _ _ | refine ext_below ?_ (by first | omega | (simp only [size_ext, heap_push, Array.size_push, World.heap_drewN]; omega) | (simp; omega)) _ _ | refine below_draws ?_ _ | refine Below.alloc ?_ (by first | omega | (simp; done) | (simp; omega)) _ | refine Below.setCell ?_ (by first | omega | (simp; done) | (simp; omega)) _ | refine below_then (by assumption) (by first | omega | (simp; done) | (simp; omega)) ?_)))⟩
    · exact ⟨by have := HD.out; simp at this; rw [HR.out, if_pos this]; rfl, by (show Below _ _ _; (repeat (first | exact Below.refl _ _ | refine ext_below ?_ (by first | omega | (simp only [size_ext, heap_push, Array.size_push, World.heap_drewN]; omega) | (simp; omega)) _ _ | refine below_draws ?_ _ | refine Below.alloc ?_ (by first | omega | (simp; done) | (simp; omega)) _ | refine Below.setCell ?_ (by first | omega | (simp; done) | (simp; omega)) _ | refine below_then (by assumption) (by first | omega | (simp; done) | (simp; omega)) ?_)))⟩
  · rw [hd] at e0
    have hl : left - (n : Int) < 0 := of_decide_eq_true hd
    rw [if_pos hl]
    go_enter Try.func17, Try.ntmps17
    go_wp2_with (go_at_call 44; (refine (S1.out _).mono ?_; rintro e w' ⟨rfl, nq, rfl⟩))
    go_ret
    exact ⟨rfl, by (show Below _ _ _; (repeat (first | exact Below.refl _ _ | refine ext_below ?_ (by first | omega | (simp only [size_ext, heap_push, Array.size_push, World.heap_drewN]; omega) | (simp; omega)) _ _ | refine below_draws ?_ _ | refine Below.alloc ?_ (by first | omega | (simp; done) | (simp; omega)) _ | refine Below.setCell ?_ (by first | omega | (simp; done) | (simp; omega)) _ | refine below_then (by assumption) (by first | omega | (simp; done) | (simp; omega)) ?_)))⟩

theorem c_toFarm (A A' : Option Addr) (n cap n' cap' r d s : Nat) (xs ys : List Nat) (w : World) (h : Slc (Value.float .f32) w w.heap.size A n xs) (h' : Slc (Value.float .f32) w w.heap.size A' n' ys) (hn : n ≤ 1048576) (hn' : n' ≤ 1048576) :
    Calls Try.prog 19 #[.agg #[.slice A n cap, .slice A' n' cap', .float .f32 r, .float .f32 d, .float .f32 s]] w fun e w' => ∃ v, e = .returned v ∧ FarmAt w' w.heap.size w'.heap.size v xs ys r d s ∧ Grew w w' := by
  have HS := Lib.hid h
  have HT := Lib.hid h'
  clear h h'
  go_enter Try.func19, Try.ntmps19
  go_wp2_with fail
  refine (c_toF A n cap w.heap.size xs _ (HS.out.grew (Nat.le_refl _) (by (show Below _ _ _; (repeat (first | exact Below.refl _ _ | refine ext_below ?_ (by first | omega | (simp only [size_ext, heap_push, Array.size_push, World.heap_drewN]; omega) | (simp; omega)) _ _ | refine below_draws ?_ _ | refine Below.alloc ?_ (by first | omega | (simp; done) | (simp; omega)) _ | refine Below.setCell ?_ (by first | omega | (simp; done) | (simp; omega)) _ | refine below_then (by assumption) (by first | omega | (simp; done) | (simp; omega)) ?_))))) (by simp; omega) hn).mono ?_
  rintro e w1 ⟨X, rfl, hr1, hg1⟩
  have R1 := Lib.hid hr1
  have G1 := Lib.hid (grew_trans (show Grew w _ by (show Below _ _ _; (repeat (first | exact Below.refl _ _ | refine ext_below ?_ (by first | omega | (simp only [size_ext, heap_push, Array.size_push, World.heap_drewN]; omega) | (simp; omega)) _ _ | refine below_draws ?_ _ | refine Below.alloc ?_ (by first | omega | (simp; done) | (simp; omega)) _ | refine Below.setCell ?_ (by first | omega | (simp; done) | (simp; omega)) _ | refine below_then (by assumption) (by first | omega | (simp; done) | (simp; omega)) ?_)))) hg1)
  obtain ⟨hbc, hbf⟩ := bcell hg1
  have hsz := Below.size hg1
  simp at hsz
  have s1 : w.heap.size < w1.heap.size := by omega
  have s2 : w.heap.size + 1 < w1.heap.size := by omega
  have s3 : w.heap.size + 1 + 1 < w1.heap.size := by omega
  obtain ⟨A1, c1, rfl, _⟩ := hr1.slc
  clear hr1 hg1
  go_wp2_with fail
  refine (c_toF A' n' cap' w.heap.size ys _ (HT.out.grew (Nat.le_refl _) (grew_set G1.out (by omega))) (by simp [World.setCell]; omega) hn').mono ?_
  rintro e w2 ⟨Y, rfl, hr2, hg2⟩
  have G2 := Lib.hid (grew_trans (grew_set G1.out (by omega)) hg2)
  have R2 := Lib.hid hr2
  have R1' := Lib.hid (RowAt.grew (RowAt.outside R1.out (outside_set w1 (w.heap.size + 1 + 1) 0 (.slice A1 xs.length c1)) (.inr (by simp))) (by simp [World.setCell]) hg2)
  obtain ⟨hbc2, hbf2⟩ := bcell hg2
  have hsz2 := Below.size hg2
  simp [World.setCell] at hsz2
  have t1 : w.heap.size < w2.heap.size := by omega
  have t2 : w.heap.size + 1 < w2.heap.size := by omega
  have t3 : w.heap.size + 1 + 1 < w2.heap.size := by omega
  obtain ⟨A2, c2, rfl, _⟩ := hr2.slc
  clear hr2 hg2
  go_wp2_with fail
  have AP := Lib.hid (R1.out.apart R2.out (by simp [World.setCell]))
  refine bodyPost_ret (v := .agg #[.slice A1 xs.length c1, .slice A2 ys.length c2, .float .f32 r, .float .f32 d, .float .f32 s]) (by simp [results, Try.results19, go_sem, hbc, hbc2, s1, s2, s3, t1, t2, t3]) rfl ?_
  refine ⟨_, rfl, ⟨_, _, rfl, ?_, ?_, AP.out⟩, ?_⟩
  · exact RowAt.mono (RowAt.outside (a := w.heap.size) (b := w.heap.size + 1 + 1 + 1) R1'.out (by repeat (first | (with_reducible exact Outside.refl _ _ _) | (with_reducible refine Outside.trans ?_ (Outside.mono (outside_set _ _ _ _) ?_ ?_); rotate_left; omega; omega))) (.inr (by simp))) (by simp; omega) (by simp [World.setCell]; omega)
  · exact RowAt.mono (RowAt.outside (a := w.heap.size) (b := w.heap.size + 1 + 1 + 1) R2.out (by repeat (first | (with_reducible exact Outside.refl _ _ _) | (with_reducible refine Outside.trans ?_ (Outside.mono (outside_set _ _ _ _) ?_ ?_); rotate_left; omega; omega))) (.inr (by simp [World.setCell]; omega))) (by simp [World.setCell]; omega) (by simp [World.setCell])
  · exact Outside.below (lo := w.heap.size) (hi := w.heap.size + 1 + 1 + 1) G2.out (by repeat (first | (with_reducible exact Outside.refl _ _ _) | (with_reducible refine Outside.trans ?_ (Outside.mono (outside_set _ _ _ _) ?_ ?_); rotate_left; omega; omega))) (Nat.le_refl _)

theorem c_eqFarm (lo hi lo' hi' : Nat) (v v' : Value) (xs ys xs' ys' : List Nat) (r d s r' d' s' : Nat) (w : World) (h : FarmAt w lo hi v xs ys r d s) (h' : FarmAt w lo' hi' v' xs' ys' r' d' s')
    (e1 : xs.map (cl .f32) = xs'.map (cl .f32)) (e2 : ys.map (cl .f32) = ys'.map (cl .f32)) (er : cl .f32 r = cl .f32 r') (ed : cl .f32 d = cl .f32 d') (es : cl .f32 s = cl .f32 s') (hn : xs.length ≤ 1048576) (hn' : ys.length ≤ 1048576) :
    Calls Try.prog 14 #[v, v'] w fun e w' => e = .returned (.bool true) ∧ Grew w w' := by
  obtain ⟨X, Y, rfl, hx, hy, _⟩ := h
  obtain ⟨X', Y', rfl, hx', hy', _⟩ := h'
  have HX := Lib.hid (fun o o' => (hx.alloc o).alloc o')
  have HY := Lib.hid (fun o o' => (hy.alloc o).alloc o')
  have HX' := Lib.hid (fun o o' => (hx'.alloc o).alloc o')
  have HY' := Lib.hid (fun o o' => (hy'.alloc o).alloc o')
  obtain ⟨_, _, rfl, _⟩ := hx.slc
  obtain ⟨_, _, rfl, _⟩ := hy.slc
  obtain ⟨_, _, rfl, _⟩ := hx'.slc
  obtain ⟨_, _, rfl, _⟩ := hy'.slc
  have E1 := Lib.hid e1
  have E2 := Lib.hid e2
  clear hx hy hx' hy' e1 e2
  go_enter Try.func14, Try.ntmps14
  go_wp2_with fail
  refine (c_eqF _ _ _ _ _ _ xs xs' _ (HX.out _ _) (HX'.out _ _) E1.out hn).mono ?_
  rintro e w' ⟨rfl, n1, rfl⟩
  go_wp2_with fail
  refine (c_eqF _ _ _ _ _ _ ys ys' _ (RowAt.drewN (HY.out _ _) _) (RowAt.drewN (HY'.out _ _) _) E2.out hn').mono ?_
  rintro e w' ⟨rfl, n2, rfl⟩
  go_wp2_with (first | (refine upon_widen _ _ _ some_f32 Try.underlying43 ?_; intro z n hz hzw) | (go_at_call 27; refine (c_sameFloat _ _ _ (by simp only [*])).mono ?_; rintro e w' ⟨rfl, nq, rfl⟩))
  go_ret
  exact ⟨rfl, by (show Below _ _ _; (repeat (first | exact Below.refl _ _ | refine ext_below ?_ (by first | omega | (simp only [size_ext, heap_push, Array.size_push, World.heap_drewN]; omega) | (simp; omega)) _ _ | refine below_draws ?_ _ | refine Below.alloc ?_ (by first | omega | (simp; done) | (simp; omega)) _ | refine Below.setCell ?_ (by first | omega | (simp; done) | (simp; omega)) _ | refine below_then (by assumption) (by first | omega | (simp; done) | (simp; omega)) ?_)))⟩

theorem c_szFarm' (A A' : Option Addr) (n cap n' cap' r d s : Nat) (left : Int) (w : World) (hn : n ≤ maxLen) (hn' : n' ≤ maxLen) (h0 : 0 ≤ left) (h1 : left ≤ 1048576) :
    Calls Try.prog 17 #[.agg #[.slice A n cap, .slice A' n' cap', .float .f32 r, .float .f32 d, .float .f32 s], .int .i64 left] w fun e w' => e = .returned (.int .i64 (sz left (n + n'))) ∧ Grew w w' :=
  (c_szFarm A A' n cap n' cap' r d s left w hn hn' h0 h1).mono fun e w' ⟨he, hg⟩ => ⟨he.trans (by
    have : (if left - (n : Int) < 0 then (-1 : Int) else sz (left - n) n') = sz left (n + n') := by
      unfold sz
      split <;> (try split) <;> (try split) <;> omega
    rw [this]), hg⟩

section
variable {w w' : World} {lo hi : Nat} {v : Value} {xs ys : List Nat} {r d s : Nat}

theorem FarmAt.grew (h : FarmAt w lo hi v xs ys r d s) (hs : hi ≤ w.heap.size) (hg : Grew w w') : FarmAt w' lo hi v xs ys r d s := by
  obtain ⟨X, Y, e, hx, hy, hd⟩ := h
  exact ⟨X, Y, e, hx.grew hs hg, hy.grew hs hg, hd⟩

theorem FarmAt.drewN (h : FarmAt w lo hi v xs ys r d s) (n : Nat) : FarmAt (w.drewN n) lo hi v xs ys r d s := h

theorem FarmAt.keep (h : FarmAt w lo hi v xs ys r d s) (hk : ∀ k, lo ≤ k → k < hi → w'.heap[k]? = w.heap[k]?) : FarmAt w' lo hi v xs ys r d s := by
  obtain ⟨X, Y, e, hx, hy, hd⟩ := h
  exact ⟨X, Y, e, hx.keep hk, hy.keep hk, hd⟩

theorem FarmAt.wrote {a b : Nat} (h : FarmAt w lo hi v xs ys r d s) (hs : hi ≤ w.heap.size) (ho : Wrote a b w w') (hd : hi ≤ a ∨ b ≤ lo) : FarmAt w' lo hi v xs ys r d s := h.keep fun k h1 h2 => ho.block k (by omega) (by omega)

theorem FarmAt.parts (h : FarmAt w lo hi v xs ys r d s) : ∃ A c A' c', v = .agg #[.slice A xs.length c, .slice A' ys.length c', .float .f32 r, .float .f32 d, .float .f32 s] ∧ Fl w hi A xs.length xs ∧ Fl w hi A' ys.length ys := by
  obtain ⟨X, Y, rfl, hx, hy, _⟩ := h
  obtain ⟨A, c, rfl, h1⟩ := hx.slc
  obtain ⟨A', c', rfl, h2⟩ := hy.slc
  exact ⟨A, c, A', c', rfl, h1, h2⟩
end

theorem FarmAt.ne {w : World} {lo hi : Nat} {v : Value} {xs ys : List Nat} {r d s : Nat} (h : FarmAt w lo hi v xs ys r d s) : v ≠ undef := by
  obtain ⟨X, Y, rfl, _⟩ := h
  simp [undef]

/-- A farm of a call's own, made behind block B. -/
def FarmBy (B : Nat) (xs ys : List Nat) (r d s : Nat) (v : Value) (w' : World) : Prop := ∃ lo, B ≤ lo ∧ FarmAt w' lo w'.heap.size v xs ys r d s

theorem FarmBy.ne {B : Nat} {xs ys : List Nat} {r d s : Nat} {v : Value} {w' : World} (h : FarmBy B xs ys r d s v w') : v ≠ undef := by
  obtain ⟨_, _, h⟩ := h
  exact h.ne

theorem FarmBy.get {F : List (Tmp × (Value → World → World → Prop))} {w0 w' : World} {k : Tmp} {u : Value} {B : Nat} {xs ys : List Nat} {r d s : Nat} (h : Lasts F w0 k u w') (hu : u ≠ undef) (e : tabF F k = some (W2 (FarmBy B xs ys r d s))) : ∃ lo hi, B ≤ lo ∧ hi ≤ w'.heap.size ∧ FarmAt w' lo hi u xs ys r d s := by
  obtain ⟨_, w3, _, h1, h2, h3⟩ := h.get hu
  rw [ofOp_some, e] at h3
  obtain ⟨lo, hl, h3⟩ := h3
  exact ⟨lo, _, hl, Below.size h2, h3.grew (Nat.le_refl _) h2⟩

set_option maxHeartbeats 1000000 in
theorem c_markFarm (lo hi : Nat) (v : Value) (xs ys : List Nat) (r d s : Nat) (k : Int) (w : World) (h : FarmAt w lo hi v xs ys r d s) (hs : hi ≤ w.heap.size) (hn : xs.length ≤ 1048576) (hn' : ys.length ≤ 1048576) (h0 : 0 ≤ k) (h1 : k ≤ 4194304) :
    Calls Try.prog 15 #[v, .int .i64 k] w fun e w' => e = .returned (.int .i64 (k + xs.length + ys.length)) ∧ FarmAt w' lo hi v (mrkFloat32S k xs.length) (mrkFloat32S (k + xs.length) ys.length) r d s ∧ Wrote lo hi w w' := by
  obtain ⟨X, Y, rfl, hx, hy, hd⟩ := h
  have HX := Lib.hid (fun o => hx.alloc o)
  have HY := Lib.hid (fun o => hy.alloc o)
  have HD := Lib.hid hd
  have TX := Lib.hid (fun w w' h => RowAt.touched (row := none) (w := w) (w1 := w') (v := X) (xs := xs) (g := Value.float .f32) (t := 22) (lo := lo) (hi := hi) h)
  obtain ⟨A, c, rfl, _⟩ := hx.slc
  obtain ⟨A', c', rfl, _⟩ := hy.slc
  have bx : ∀ b, (Value.slice A xs.length c).ownBlock = some b → b < w.heap.size := fun b hb => Nat.lt_of_lt_of_le (hx.2 b hb) hs
  have BX := Lib.hid bx
  clear hx hy hd bx
  go_enter Try.func15, Try.ntmps15
  go_wp2_with fail
  refine (c_markFloat32S' _ lo hi xs k _ (HX.out _) (by omega) h0 (by omega)).mono ?_
  rintro e w1 ⟨rfl, hr1, ht1⟩
  have hc : ∀ o, w1.cell? ⟨w.heap.size, o, none⟩ = _ := fun o => ht1.cell (b := w.heap.size) (fun e => absurd (BX.out _ e.symm) (by omega)) o
  have R1 := Lib.hid hr1
  have S1 := Lib.hid (RowAt.touch (HY.out _) ht1 HD.out)
  have O1 := Lib.hid (RowAt.touched (row := none) (HX.out _) ht1)
  clear hr1 ht1
  go_wp2_with fail
  refine (c_markFloat32S' _ lo hi ys (k + xs.length) _ S1.out (by omega) (by omega) (by omega)).mono ?_
  rintro e w2 ⟨rfl, hr2, ht2⟩
  have R2 := Lib.hid (RowAt.touch R1.out ht2 (fun b h1 h2 => HD.out b (by simpa [Value.ownBlock] using h2) h1))
  have S2 := Lib.hid hr2
  have O2 := Lib.hid (RowAt.touched (row := none) S1.out ht2)
  clear hr2 ht2 hc
  go_wp2_with fail
  go_ret
  exact ⟨rfl, ⟨_, _, rfl, R2.out, S2.out, HD.out⟩, Wrote.trans (Wrote.of_grew (Below.alloc (Below.refl _ _) (Nat.le_refl _) _)) (Wrote.trans (Wrote.of_outside O1.out) (Wrote.of_outside O2.out))⟩

theorem c_heldFarm (lo hi n m : Nat) (v : Value) (r d s : Nat) (k : Int) (w : World) (h : FarmAt w lo hi v (mrkFloat32S k n) (mrkFloat32S (k + n) m) r d s) (hn : n ≤ 1048576) (hn' : m ≤ 1048576) (h0 : 0 ≤ k) (h1 : k ≤ 4194304) :
    Calls Try.prog 16 #[v, .int .i64 k] w fun e w' => e = .returned (.int .i64 (k + n + m)) ∧ Grew w w' := by
  obtain ⟨X, Y, rfl, hx, hy, hd⟩ := h
  have HX := Lib.hid (fun o => hx.alloc o)
  have HY := Lib.hid (fun o => hy.alloc o)
  obtain ⟨A, c, rfl, _⟩ := hx.slc
  obtain ⟨A', c', rfl, _⟩ := hy.slc
  clear hx hy hd
  have d1 : decide (k + (n : Int) < 0) = false := by simp; omega
  have d2 : decide (k + (n : Int) + (m : Int) < 0) = false := by simp; omega
  go_enter Try.func16, Try.ntmps16
  go_wp2_with fail
  refine (c_heldFloat32S _ lo hi n k _ (HX.out _) (by omega) h0 (by omega)).mono ?_
  rintro e w' ⟨rfl, n1, rfl⟩
  go_wp2_with fail
  refine (c_heldFloat32S _ lo hi m (k + n) _ (RowAt.drewN (HY.out _) _) (by omega) (by omega) (by omega)).mono ?_
  rintro e w' ⟨rfl, n2, rfl⟩
  go_wp2_with fail
  go_ret
  exact ⟨rfl, by (show Below _ _ _; (repeat (first | exact Below.refl _ _ | refine ext_below ?_ (by first | omega | (simp only [size_ext, heap_push, Array.size_push, World.heap_drewN]; omega) | (simp; omega)) _ _ | refine below_draws ?_ _ | refine Below.alloc ?_ (by first | omega | (simp; done) | (simp; omega)) _ | refine Below.setCell ?_ (by first | omega | (simp; done) | (simp; omega)) _ | refine below_then (by assumption) (by first | omega | (simp; done) | (simp; omega)) ?_)))⟩

end Go.Proofs.Ytlakmogclcpgdaa

/-
  CONTRACTS: roses that a law copies, compares, marks.
-/
namespace Go.Proofs.Ytlakmogclcpgdaa
open Go.RowKit Go.Flt
set_option linter.unusedVariables false
set_option maxRecDepth 100000
set_option linter.unusedSimpArgs false

/-- A rose: the slices lie in rows of their own from block lo on, below block hi, in two blocks. -/
def RoseAt (w : World) (lo hi : Nat) (v : Value) (xs ys : List Nat)  : Prop :=
  ∃ X Y, v = .agg #[X, Y] ∧ FRow w lo hi X xs ∧ FRow w lo hi Y ys ∧ ∀ k, X.ownBlock = some k → Y.ownBlock ≠ some k

/-- The parts of a rose lie in block b. -/
def RoAt (w : World) (b : Nat) (X Y : Value)  : Prop :=
  w.cell? ⟨b, 0, none⟩ = some X ∧ w.cell? ⟨b, 1, none⟩ = some Y

theorem RoAt.grew {w w' : World} {b : Nat} {X Y : Value}  (h : RoAt w b X Y) (hb : b < w.heap.size) (hg : Grew w w') : RoAt w' b X Y := by
  obtain ⟨h0, h1⟩ := h
  have hc := (bcell hg).1
  exact ⟨(hc _ _ hb).trans h0, (hc _ _ hb).trans h1⟩

theorem RoAt.drewN {w : World} {b : Nat} {X Y : Value}  (h : RoAt w b X Y) (n : Nat) : RoAt (w.drewN n) b X Y := h

section
variable {w w' : World} {lo hi : Nat} {v : Value} {xs ys : List Nat} 

theorem RoseAt.grew (h : RoseAt w lo hi v xs ys) (hs : hi ≤ w.heap.size) (hg : Grew w w') : RoseAt w' lo hi v xs ys := by
  obtain ⟨X, Y, e, hx, hy, hd⟩ := h
  exact ⟨X, Y, e, hx.grew hs hg, hy.grew hs hg, hd⟩

theorem RoseAt.drewN (h : RoseAt w lo hi v xs ys) (n : Nat) : RoseAt (w.drewN n) lo hi v xs ys := h

theorem RoseAt.keep (h : RoseAt w lo hi v xs ys) (hk : ∀ k, lo ≤ k → k < hi → w'.heap[k]? = w.heap[k]?) : RoseAt w' lo hi v xs ys := by
  obtain ⟨X, Y, e, hx, hy, hd⟩ := h
  exact ⟨X, Y, e, hx.keep hk, hy.keep hk, hd⟩

theorem RoseAt.wrote {a b : Nat} (h : RoseAt w lo hi v xs ys) (hs : hi ≤ w.heap.size) (ho : Wrote a b w w') (hd : hi ≤ a ∨ b ≤ lo) : RoseAt w' lo hi v xs ys := h.keep fun k h1 h2 => ho.block k (by omega) (by omega)

theorem RoseAt.parts (h : RoseAt w lo hi v xs ys) : ∃ A c A' c', v = .agg #[.slice A xs.length c, .slice A' ys.length c'] ∧ Fl w hi A xs.length xs ∧ Fl w hi A' ys.length ys := by
  obtain ⟨X, Y, rfl, hx, hy, _⟩ := h
  obtain ⟨A, c, rfl, h1⟩ := hx.slc
  obtain ⟨A', c', rfl, h2⟩ := hy.slc
  exact ⟨A, c, A', c', rfl, h1, h2⟩
end

theorem RoseAt.ne {w : World} {lo hi : Nat} {v : Value} {xs ys : List Nat}  (h : RoseAt w lo hi v xs ys) : v ≠ undef := by
  obtain ⟨X, Y, rfl, _⟩ := h
  simp [undef]

/-- A rose of a call's own, made behind block B. -/
def RoseBy (B : Nat) (xs ys : List Nat)  (v : Value) (w' : World) : Prop := ∃ lo, B ≤ lo ∧ RoseAt w' lo w'.heap.size v xs ys

theorem RoseBy.ne {B : Nat} {xs ys : List Nat}  {v : Value} {w' : World} (h : RoseBy B xs ys v w') : v ≠ undef := by
  obtain ⟨_, _, h⟩ := h
  exact h.ne

theorem RoseBy.get {F : List (Tmp × (Value → World → World → Prop))} {w0 w' : World} {k : Tmp} {u : Value} {B : Nat} {xs ys : List Nat}  (h : Lasts F w0 k u w') (hu : u ≠ undef) (e : tabF F k = some (W2 (RoseBy B xs ys))) : ∃ lo hi, B ≤ lo ∧ hi ≤ w'.heap.size ∧ RoseAt w' lo hi u xs ys := by
  obtain ⟨_, w3, _, h1, h2, h3⟩ := h.get hu
  rw [ofOp_some, e] at h3
  obtain ⟨lo, hl, h3⟩ := h3
  exact ⟨lo, _, hl, Below.size h2, h3.grew (Nat.le_refl _) h2⟩

end Go.Proofs.Ytlakmogclcpgdaa

/-
  LAWS' LEDGER: facts that look at some blocks alone, and how they last.
-/
namespace Go.Proofs.Ytlakmogclcpgdaa
open Go.RowKit Go.Flt
set_option linter.unusedVariables false
set_option maxRecDepth 100000
set_option linter.unusedSimpArgs false

/-- A fact of a world that looks at the blocks from lo on, below hi, alone. -/
structure Loc (lo hi : Nat) (F : World → Prop) (w : World) : Prop where
  le : hi ≤ w.heap.size
  ok : ∀ w' : World, (∀ k, lo ≤ k → k < hi → w'.heap[k]? = w.heap[k]?) → F w'

section
variable {lo hi a b : Nat} {F : World → Prop} {w w' : World}

theorem Loc.now (h : Loc lo hi F w) : F w := h.ok w fun _ _ _ => rfl

theorem Loc.keep (h : Loc lo hi F w) (hs : w.heap.size ≤ w'.heap.size) (hk : ∀ k, lo ≤ k → k < hi → w'.heap[k]? = w.heap[k]?) : Loc lo hi F w' :=
  ⟨Nat.le_trans h.le hs, fun u hu => h.ok u fun k h1 h2 => (hu k h1 h2).trans (hk k h1 h2)⟩

theorem Loc.grew (h : Loc lo hi F w) (hg : Grew w w') : Loc lo hi F w' := h.keep (Below.size hg) fun k _ h2 => hg.block k (Nat.lt_of_lt_of_le h2 h.le)

theorem Loc.wrote (h : Loc lo hi F w) (ho : Wrote a b w w') (hd : hi ≤ a ∨ b ≤ lo) : Loc lo hi F w' := h.keep ho.size fun k h1 h2 => ho.block k (Nat.lt_of_lt_of_le h2 h.le) (by omega)
end

theorem Loc.lt {b : Nat} {F : World → Prop} {w : World} (h : Loc b (b + 1) F w) : b < w.heap.size := h.le

theorem size_al (w : World) (o : Obj) : (w.alloc o).heap.size = w.heap.size + 1 := by simp

theorem cell_same {w w' : World} {b : Nat} (h : w'.heap[b]? = w.heap[b]?) (o : Nat) : w'.cell? ⟨b, o, none⟩ = w.cell? ⟨b, o, none⟩ := by simp only [World.cell?, h]

theorem Loc.row {α : Type} {g : α → Value} {t : TypeId} {w : World} {lo hi : Nat} {v : Value} {xs : List α} (h : RowAt g t w lo hi v xs) (hs : hi ≤ w.heap.size) : Loc lo hi (fun w => RowAt g t w lo hi v xs) w := ⟨hs, fun _ hk => h.keep hk⟩

theorem Loc.rose {w : World} {lo hi : Nat} {v : Value} {xs ys : List Nat} (h : RoseAt w lo hi v xs ys) (hs : hi ≤ w.heap.size) : Loc lo hi (fun w => RoseAt w lo hi v xs ys) w := ⟨hs, fun _ hk => h.keep hk⟩

theorem Loc.farm {w : World} {lo hi : Nat} {v : Value} {xs ys : List Nat} {r d s : Nat} (h : FarmAt w lo hi v xs ys r d s) (hs : hi ≤ w.heap.size) : Loc lo hi (fun w => FarmAt w lo hi v xs ys r d s) w := ⟨hs, fun _ hk => h.keep hk⟩

theorem Loc.ro {w : World} {b : Nat} {X Y : Value} (h : RoAt w b X Y) (hb : b < w.heap.size) : Loc b (b + 1) (fun w => RoAt w b X Y) w :=
  ⟨hb, fun _ hk => by
    have e := hk b (Nat.le_refl _) (Nat.lt_succ_self _)
    exact ⟨(cell_same e 0).trans h.1, (cell_same e 1).trans h.2⟩⟩

theorem Loc.fm {w : World} {b : Nat} {X Y : Value} {r d s : Nat} (h : FmAt w b X Y r d s) (hb : b < w.heap.size) : Loc b (b + 1) (fun w => FmAt w b X Y r d s) w :=
  ⟨hb, fun _ hk => by
    have e := hk b (Nat.le_refl _) (Nat.lt_succ_self _)
    obtain ⟨h0, h1, h2, h3, h4⟩ := h
    exact ⟨(cell_same e 0).trans h0, (cell_same e 1).trans h1, (cell_same e 2).trans h2, (cell_same e 3).trans h3, (cell_same e 4).trans h4⟩⟩

/-- What lies below block K stays. -/
theorem Loc.slc {α : Type} {g : α → Value} {w : World} {K n : Nat} {A : Option Addr} {xs : List α} (h : Slc g w K A n xs) (hK : K ≤ w.heap.size) : Loc 0 K (fun w => Slc g w K A n xs) w :=
  ⟨hK, fun w' hk => h.keep fun b o hb => cell_same (hk b (Nat.zero_le _) hb) o⟩

/-- A rose, whose data are told, and a bool. -/
def RetR (D E : List Ieee.Datum) (b : Bool) (w : World) (e : Ending) (w' : World) : Prop :=
  ∃ v zs us, e = .returned (.tuple #[v, .bool b]) ∧ RoseAt w' w.heap.size w'.heap.size v zs us ∧ zs.map (cl .f32) = D ∧ us.map (cl .f32) = E ∧ Grew w w'

/-- A farm, whose data are told (the numbers as words), and a bool. -/
def RetFm (D E : List Ieee.Datum) (r d s : Nat) (b : Bool) (w : World) (e : Ending) (w' : World) : Prop :=
  ∃ v zs us, e = .returned (.tuple #[v, .bool b]) ∧ FarmAt w' w.heap.size w'.heap.size v zs us r d s ∧ zs.map (cl .f32) = D ∧ us.map (cl .f32) = E ∧ Grew w w'

/-- A row, whose values are told (as f tells them), and a bool. -/
def RetRow {α β : Type} (g : α → Value) (t : TypeId) (f : α → β) (D : List β) (b : Bool) (w : World) (e : Ending) (w' : World) : Prop :=
  ∃ v zs, e = .returned (.tuple #[v, .bool b]) ∧ RowAt g t w' w.heap.size w'.heap.size v zs ∧ zs.map f = D ∧ Grew w w'

theorem len_of_map {α β : Type} {f : α → β} {zs : List α} {D : List β} (h : zs.map f = D) : zs.length = D.length := by rw [← h]; simp

end Go.Proofs.Ytlakmogclcpgdaa

/-
  CONTRACTS: when a rose is valid.
-/
namespace Go.Proofs.Ytlakmogclcpgdaa
open Go.RowKit Go.Flt
set_option linter.unusedVariables false
set_option maxRecDepth 100000
set_option linter.unusedSimpArgs false

/-- A rose's numbers, by their data. -/
def vRoseD (D E : List Ieee.Datum) : Bool := decide (1 ≤ D.length) && decide (D.length ≤ 16) && decide (E.length = D.length) && D.all least && E.all least

def vRose (xs ys : List Nat) : Bool := vRoseD (xs.map (cl .f32)) (ys.map (cl .f32))

theorem vRose_eq (xs ys : List Nat) : vRose xs ys = (decide (1 ≤ xs.length) && decide (xs.length ≤ 16) && decide (ys.length = xs.length) && (xs.all fun x => least (cl .f32 x)) && (ys.all fun x => least (cl .f32 x))) := by
  unfold vRose vRoseD
  simp only [List.length_map, List.all_map, Function.comp_def]

theorem least_no {xs ys : List Nat} {k : Nat} (hk : k < xs.length) (hl : ys.length = xs.length) (h : (least (cl .f32 (xs.getD k 0)) && least (cl .f32 (ys.getD k 0))) = false) : vRose xs ys = false := by
  rw [vRose_eq]
  rw [Bool.and_eq_false_iff] at h
  rcases h with h | h
  · have : (xs.all fun x => least (cl .f32 x)) = false := by
      rw [List.all_eq_false]
      exact ⟨xs[k], List.getElem_mem hk, by simpa [List.getD, hk] using h⟩
    rw [this]
    simp
  · have hk' : k < ys.length := by omega
    have : (ys.all fun x => least (cl .f32 x)) = false := by
      rw [List.all_eq_false]
      exact ⟨ys[k], List.getElem_mem hk', by simpa [List.getD, hk'] using h⟩
    rw [this]
    simp

theorem least_all {xs ys : List Nat} (h1 : 1 ≤ xs.length) (h2 : xs.length ≤ 16) (hl : ys.length = xs.length) (h : ∀ k, k < xs.length → least (cl .f32 (xs.getD k 0)) = true ∧ least (cl .f32 (ys.getD k 0)) = true) : vRose xs ys = true := by
  rw [vRose_eq]
  simp only [h1, h2, hl, decide_true, Bool.true_and, Bool.and_eq_true, List.all_eq_true]
  constructor
  · intro x hx
    obtain ⟨k, hk, rfl⟩ := List.getElem_of_mem hx
    simpa [List.getD, hk] using (h k hk).1
  · intro x hx
    obtain ⟨k, hk, rfl⟩ := List.getElem_of_mem hx
    simpa [List.getD, hk] using (h k (by omega)).2

/-- No rose. -/
def ZRO : Value := .agg #[.slice none 0 0, .slice none 0 0]

theorem rose_nil (w : World) (lo hi : Nat) : RoseAt w lo hi ZRO [] [] := ⟨_, _, rfl, rowAt_nil _ _ _, rowAt_nil _ _ _, fun k h => by simp [Value.ownBlock] at h⟩

/-- What a rose is given back as: itself where it is valid, else none. -/
def RetG (v : Value) (ok : Bool) (w : World) (e : Ending) (w' : World) : Prop := e = .returned (.tuple #[if ok then v else ZRO, .bool ok]) ∧ Grew w w'

end Go.Proofs.Ytlakmogclcpgdaa

/-
  ROWS IN A BOX: a rose that grows; told values (a tuple of a rose and a bool, a fresh box); what a store leaves.
-/
namespace Go.Proofs.Ytlakmogclcpgdaa
open Go.RowKit Go.Flt
set_option linter.unusedVariables false
set_option maxRecDepth 100000
set_option linter.unusedSimpArgs false

/-- A rose that grows: its two rows, from block lo on, and the block b in which they stand. -/
structure MixAt (w0 w : World) (lo b : Nat) (v1 v2 : Value) (zs us : List Nat) (D E : List Ieee.Datum) : Prop where
  r1 : FRow w lo w.heap.size v1 zs
  r2 : FRow w lo w.heap.size v2 us
  ap : ∀ k, v1.ownBlock = some k → v2.ownBlock ≠ some k
  n1 : v1.ownBlock ≠ some b
  n2 : v2.ownBlock ≠ some b
  c0 : w.cell? ⟨b, 0, none⟩ = some v1
  c1 : w.cell? ⟨b, 1, none⟩ = some v2
  f0 : w.frozen? ⟨b, 0, none⟩ = false
  f1 : w.frozen? ⟨b, 1, none⟩ = false
  d1 : zs.map (cl .f32) = D
  d2 : us.map (cl .f32) = E
  gr : Grew w0 w
  hb : w0.heap.size ≤ b
  hl : w0.heap.size ≤ lo
  ll : lo ≤ w.heap.size
  lt : b < w.heap.size

theorem cell_block {w w' : World} {b : Nat} (h : w'.heap[b]? = w.heap[b]?) (o : Nat) : w'.cell? ⟨b, o, none⟩ = w.cell? ⟨b, o, none⟩ ∧ w'.frozen? ⟨b, o, none⟩ = w.frozen? ⟨b, o, none⟩ := by
  constructor
  · simp only [World.cell?, h]
  · simp only [World.frozen?, h]

theorem cell_set_other (w : World) (b i j : Nat) (v : Value) (h : i ≠ j) : (w.setCell ⟨b, i, none⟩ v).cell? ⟨b, j, none⟩ = w.cell? ⟨b, j, none⟩ := by
  simp only [World.cell?, World.setCell, Array.getElem?_modify]
  cases hb : w.heap[b]? with
  | none => simp
  | some o => cases o <;> simp [h]

theorem cell_set_own (w : World) (b i : Nat) (v u : Value) (h : w.cell? ⟨b, i, none⟩ = some u) : (w.setCell ⟨b, i, none⟩ v).cell? ⟨b, i, none⟩ = some v := by
  simp only [World.cell?, World.setCell, Array.getElem?_modify] at *
  cases hb : w.heap[b]? with
  | none => rw [hb] at h; cases h
  | some o =>
    rw [hb] at h
    cases o with
    | cells c t f =>
      simp only [Option.map_some, if_true] at h ⊢
      have hi := (Array.getElem?_eq_some_iff.1 h).1
      simp [hi]
    | _ => simp_all

theorem frozen_set (w : World) (b i j b' : Nat) (v : Value) : (w.setCell ⟨b, i, none⟩ v).frozen? ⟨b', j, none⟩ = w.frozen? ⟨b', j, none⟩ := by
  simp only [World.frozen?, World.setCell, Array.getElem?_modify]
  by_cases h : b = b'
  · subst h
    cases hb : w.heap[b]? with
    | none => simp
    | some o => cases o <;> simp
  · simp [h]

theorem mix_push1 {w0 wr wq w2 : World} {lo b r : Nat} {v1 v2 v' : Value} {zs us : List Nat} {D E : List Ieee.Datum} {d : Ieee.Datum} (h : MixAt w0 wr lo b v1 v2 zs us D E) (hq : Grew wr wq)
    (hown : w2.ownsRow lo 22 1 v' (zs.length + 1) (zs.map (Value.float .f32) ++ [.float .f32 r])) (hgr : wq.grownBy w2 v1.ownBlock) (hat : v'.ownBlock = v1.ownBlock ∨ v'.ownBlock = some wq.heap.size) (hd : cl .f32 r = d) :
    MixAt w0 (w2.setCell ⟨b, 0, none⟩ v') lo b v' v2 (zs ++ [r]) us (D ++ [d]) E ∧ w2.cell? ⟨b, 0, none⟩ = some v1 ∧ w2.frozen? ⟨b, 0, none⟩ = false := by
  have hsz := Below.size hq
  have hlt := h.lt
  have hll := h.ll
  obtain ⟨p1, p2, p3, p4, p5⟩ := row_push2 (RowAt.mono (h.r1.grew (Nat.le_refl _) hq) (Nat.le_refl _) hsz) (RowAt.mono (h.r2.grew (Nat.le_refl _) hq) (Nat.le_refl _) hsz) h.ap (by omega) hown hgr hat
  have hbk : w2.heap[b]? = wr.heap[b]? := (hgr.block b (by omega) (fun e => h.n1 e.symm)).trans (hq.block b hlt)
  have c0 := (cell_block hbk 0).1.trans h.c0
  have c1 := (cell_block hbk 1).1.trans h.c1
  have f0 := (cell_block hbk 0).2.trans h.f0
  have f1 := (cell_block hbk 1).2.trans h.f1
  have hs : (w2.setCell ⟨b, 0, none⟩ v').heap.size = w2.heap.size := by simp [World.setCell]
  have hz4 := Below.size p4
  have hn' : v'.ownBlock ≠ some b := by
    rcases hat with e | e
    · rw [e]; exact h.n1
    · rw [e]; intro e2; injection e2 with e2; omega
  have t1 : FRow (w2.setCell ⟨b, 0, none⟩ v') lo (w2.setCell ⟨b, 0, none⟩ v').heap.size v' (zs ++ [r]) := by rw [hs]; exact p1.touch (touch_set w2 b 0 v') (fun k e e2 => hn' (e2.trans e.symm))
  have t2 : FRow (w2.setCell ⟨b, 0, none⟩ v') lo (w2.setCell ⟨b, 0, none⟩ v').heap.size v2 us := by rw [hs]; exact p2.touch (touch_set w2 b 0 v') (fun k e e2 => h.n2 (e2.trans e.symm))
  have g2 : Grew w0 w2 := grew_trans' (grew_trans h.gr hq) p4 h.hl
  exact ⟨{ r1 := t1, r2 := t2, ap := p3, n1 := hn', n2 := h.n2,
            c0 := cell_set_own _ _ _ _ _ c0, c1 := (cell_set_other _ _ _ _ _ (by omega)).trans c1, f0 := (frozen_set _ _ _ _ _ _).trans f0, f1 := (frozen_set _ _ _ _ _ _).trans f1,
            d1 := by rw [List.map_append, h.d1]; simp [hd], d2 := h.d2, gr := grew_set g2 h.hb, hb := h.hb, hl := h.hl, ll := by rw [hs]; omega, lt := by rw [hs]; omega }, c0, f0⟩

theorem mix_push2 {w0 wr wq w2 : World} {lo b r : Nat} {v1 v2 v' : Value} {zs us : List Nat} {D E : List Ieee.Datum} {d : Ieee.Datum} (h : MixAt w0 wr lo b v1 v2 zs us D E) (hq : Grew wr wq)
    (hown : w2.ownsRow lo 22 1 v' (us.length + 1) (us.map (Value.float .f32) ++ [.float .f32 r])) (hgr : wq.grownBy w2 v2.ownBlock) (hat : v'.ownBlock = v2.ownBlock ∨ v'.ownBlock = some wq.heap.size) (hd : cl .f32 r = d) :
    MixAt w0 (w2.setCell ⟨b, 1, none⟩ v') lo b v1 v' zs (us ++ [r]) D (E ++ [d]) ∧ w2.cell? ⟨b, 1, none⟩ = some v2 ∧ w2.frozen? ⟨b, 1, none⟩ = false := by
  have hsz := Below.size hq
  have hlt := h.lt
  have hll := h.ll
  obtain ⟨p1, p2, p3, p4, p5⟩ := row_push2 (RowAt.mono (h.r2.grew (Nat.le_refl _) hq) (Nat.le_refl _) hsz) (RowAt.mono (h.r1.grew (Nat.le_refl _) hq) (Nat.le_refl _) hsz) (fun k h1 h2 => h.ap k h2 h1) (by omega) hown hgr hat
  have hbk : w2.heap[b]? = wr.heap[b]? := (hgr.block b (by omega) (fun e => h.n2 e.symm)).trans (hq.block b hlt)
  have c0 := (cell_block hbk 0).1.trans h.c0
  have c1 := (cell_block hbk 1).1.trans h.c1
  have f0 := (cell_block hbk 0).2.trans h.f0
  have f1 := (cell_block hbk 1).2.trans h.f1
  have hs : (w2.setCell ⟨b, 1, none⟩ v').heap.size = w2.heap.size := by simp [World.setCell]
  have hz4 := Below.size p4
  have hn' : v'.ownBlock ≠ some b := by
    rcases hat with e | e
    · rw [e]; exact h.n2
    · rw [e]; intro e2; injection e2 with e2; omega
  have t1 : FRow (w2.setCell ⟨b, 1, none⟩ v') lo (w2.setCell ⟨b, 1, none⟩ v').heap.size v' (us ++ [r]) := by rw [hs]; exact p1.touch (touch_set w2 b 1 v') (fun k e e2 => hn' (e2.trans e.symm))
  have t2 : FRow (w2.setCell ⟨b, 1, none⟩ v') lo (w2.setCell ⟨b, 1, none⟩ v').heap.size v1 zs := by rw [hs]; exact p2.touch (touch_set w2 b 1 v') (fun k e e2 => h.n1 (e2.trans e.symm))
  have g2 : Grew w0 w2 := grew_trans' (grew_trans h.gr hq) p4 h.hl
  exact ⟨{ r1 := t2, r2 := t1, ap := (fun k h1 h2 => p3 k h2 h1), n1 := h.n1, n2 := hn',
            c1 := cell_set_own _ _ _ _ _ c1, c0 := (cell_set_other _ _ _ _ _ (by omega)).trans c0, f0 := (frozen_set _ _ _ _ _ _).trans f0, f1 := (frozen_set _ _ _ _ _ _).trans f1,
            d2 := by rw [List.map_append, h.d2]; simp [hd], d1 := h.d1, gr := grew_set g2 h.hb, hb := h.hb, hl := h.hl, ll := by rw [hs]; omega, lt := by rw [hs]; omega }, c1, f1⟩

/-- A rose's own block. -/
def BoxR (w : World) (b : Nat) (X Y : Value) : Prop := RoAt w b X Y ∧ w.frozen? ⟨b, 0, none⟩ = false ∧ w.frozen? ⟨b, 1, none⟩ = false

theorem BoxR.grew {w w' : World} {b : Nat} {X Y : Value} (h : BoxR w b X Y) (hb : b < w.heap.size) (hg : Grew w w') : BoxR w' b X Y :=
  ⟨h.1.grew hb hg, ((bcell hg).2 _ _ hb).trans h.2.1, ((bcell hg).2 _ _ hb).trans h.2.2⟩

theorem BoxR.drewN {w : World} {b : Nat} {X Y : Value} (h : BoxR w b X Y) (n : Nat) : BoxR (w.drewN n) b X Y := h

/-- A tuple of a rose of a call's own, made behind block B, and a bool. -/
def TupBy (B : Nat) (D E : List Ieee.Datum) (b : Bool) (v : Value) (w' : World) : Prop := ∃ r zs us lo, v = .tuple #[r, .bool b] ∧ B ≤ lo ∧ RoseAt w' lo w'.heap.size r zs us ∧ zs.map (cl .f32) = D ∧ us.map (cl .f32) = E

theorem TupBy.get {F : List (Tmp × (Value → World → World → Prop))} {w0 w' : World} {k : Tmp} {u : Value} {B : Nat} {D E : List Ieee.Datum} {b : Bool} (h : Lasts F w0 k u w') (hu : u ≠ undef) (e : tabF F k = some (W2 (TupBy B D E b))) :
    ∃ r zs us lo hi, u = .tuple #[r, .bool b] ∧ B ≤ lo ∧ hi ≤ w'.heap.size ∧ RoseAt w' lo hi r zs us ∧ zs.map (cl .f32) = D ∧ us.map (cl .f32) = E := by
  obtain ⟨_, w3, _, h1, h2, h3⟩ := h.get hu
  rw [ofOp_some, e] at h3
  obtain ⟨r, zs, us, lo, e1, e2, e3, e4, e5⟩ := h3
  exact ⟨r, zs, us, lo, _, e1, e2, Below.size h2, e3.grew (Nat.le_refl _) h2, e4, e5⟩

theorem TupBy.ne {B : Nat} {D E : List Ieee.Datum} {b : Bool} {v : Value} {w' : World} (h : TupBy B D E b v w') : v ≠ undef := by
  obtain ⟨r, zs, us, lo, rfl, _⟩ := h
  simp [undef]

theorem RoAt.set {w : World} {b b' : Nat} {X Y : Value} (h : RoAt w b X Y) (hb : b' ≠ b) (o : Nat) (u : Value) : RoAt (w.setCell ⟨b', o, none⟩ u) b X Y := by
  have he : (w.setCell ⟨b', o, none⟩ u).heap[b]? = w.heap[b]? := by simp only [World.setCell, Array.getElem?_modify]; rw [if_neg hb]
  exact ⟨(cell_block he 0).1.trans h.1, (cell_block he 1).1.trans h.2⟩

theorem RoAt.put {w : World} {b : Nat} {X Y : Value} (h : RoAt w b X Y) (U V : Value) : RoAt ((w.setCell ⟨b, 0, none⟩ U).setCell ⟨b, 1, none⟩ V) b U V :=
  ⟨(cell_set_other _ _ _ _ _ (by omega)).trans (cell_set_own _ _ _ _ _ h.1), cell_set_own _ _ _ _ _ ((cell_set_other _ _ _ _ _ (by omega)).trans h.2)⟩

theorem Loc.set {lo hi : Nat} {F : World → Prop} {w : World} (h : Loc lo hi F w) (b : Nat) (o : Nat) (u : Value) (hd : b < lo ∨ hi ≤ b) : Loc lo hi F (w.setCell ⟨b, o, none⟩ u) :=
  h.keep (by simp [World.setCell]) fun k h1 h2 => by
    simp only [World.setCell, Array.getElem?_modify]
    rw [if_neg (by omega)]

theorem MixAt.drewN {w0 w : World} {lo b : Nat} {v1 v2 : Value} {zs us : List Nat} {D E : List Ieee.Datum} (h : MixAt w0 w lo b v1 v2 zs us D E) (n : Nat) : MixAt w0 (w.drewN n) lo b v1 v2 zs us D E :=
  { r1 := h.r1.drewN n, r2 := h.r2.drewN n, ap := h.ap, n1 := h.n1, n2 := h.n2, c0 := h.c0, c1 := h.c1, f0 := h.f0, f1 := h.f1, d1 := h.d1, d2 := h.d2, gr := grew_draw _ n h.gr, hb := h.hb, hl := h.hl, ll := h.ll, lt := h.lt }

/-- A value is stored into the first row. -/
theorem mix_set1 {w0 w : World} {lo b : Nat} {v1 v2 : Value} {zs us : List Nat} {D E : List Ieee.Datum} (h : MixAt w0 w lo b v1 v2 zs us D E) (hn : zs ≠ []) :
    ∃ b1 cap, v1 = .slice (some ⟨b1, 0, none⟩) zs.length cap ∧ b1 < w.heap.size ∧ (∀ i x, zs[i]? = some x → w.cell? ⟨b1, i, none⟩ = some (.float .f32 x)) ∧ (∀ i, w.frozen? ⟨b1, i, none⟩ = false) ∧
      ∀ n i x, i < zs.length → MixAt w0 ((w.drewN n).setCell ⟨b1, i, none⟩ (.float .f32 x)) lo b v1 v2 (zs.set i x) us (D.set i (cl .f32 x)) E := by
  obtain ⟨b1, cap, rfl, hb0, hb1, hc, hf, _⟩ := h.r1.row hn
  refine ⟨b1, cap, rfl, hb1, hc, hf, fun n i x hi => ?_⟩
  have h' := h.drewN n
  obtain ⟨b1', cap', e, _, _, _, _, hs⟩ := h'.r1.row hn
  simp only [Value.slice.injEq, Option.some.injEq, Addr.mk.injEq, and_true] at e
  obtain ⟨rfl, _, rfl⟩ := e
  obtain ⟨q1, q2⟩ := hs i x hi
  have hne : b1 ≠ b := fun e => h.n1 (by rw [e]; rfl)
  have hbk : ((w.drewN n).setCell ⟨b1, i, none⟩ (.float .f32 x)).heap[b]? = (w.drewN n).heap[b]? := q2.block b (fun e => hne (Option.some.inj e).symm)
  have hsz : ((w.drewN n).setCell ⟨b1, i, none⟩ (.float .f32 x)).heap.size = (w.drewN n).heap.size := by simp [World.setCell]
  exact { r1 := by rw [hsz]; exact q1, r2 := by rw [hsz]; exact h'.r2.touch q2 (fun k e e2 => h'.ap k (by simpa [Value.ownBlock] using e) e2), ap := fun k e => h'.ap k (by simpa [Value.ownBlock] using e), n1 := by simpa [Value.ownBlock] using h'.n1, n2 := h'.n2,
          c0 := (cell_block hbk 0).1.trans h'.c0, c1 := (cell_block hbk 1).1.trans h'.c1, f0 := (cell_block hbk 0).2.trans h'.f0, f1 := (cell_block hbk 1).2.trans h'.f1, d1 := by rw [← h'.d1, List.map_set], d2 := h'.d2, gr := grew_set h'.gr (Nat.le_trans h'.hl hb0), hb := h'.hb, hl := h'.hl, ll := by rw [hsz]; exact h'.ll, lt := by rw [hsz]; exact h'.lt }

theorem meas_less {a k : Nat} (h : k < a) (e : wrap64 ((k : Int) + 1) = (k : Int) + 1) : a - (intOf (Value.int .i64 (wrap64 ((k : Int) + 1)))).toNat < a - (intOf (Value.int .i64 (k : Int))).toNat := by
  rw [e]; simp only [intOf]; omega

theorem BoxR.set {w : World} {b b' : Nat} {X Y : Value} (h : BoxR w b X Y) (hb : b' ≠ b) (o : Nat) (u : Value) : BoxR (w.setCell ⟨b', o, none⟩ u) b X Y :=
  ⟨h.1.set hb o u, (frozen_set _ _ _ _ _ _).trans h.2.1, (frozen_set _ _ _ _ _ _).trans h.2.2⟩

end Go.Proofs.Ytlakmogclcpgdaa

/-
  CONTRACTS: lists of floats that are the same.
-/
namespace Go.Proofs.Ytlakmogclcpgdaa
open Go.RowKit Go.Flt
set_option linter.unusedVariables false
set_option maxRecDepth 100000
set_option linter.unusedSimpArgs false

def sameFs (xs ys : List Nat) : Bool := decide (xs.map (cl .f32) = ys.map (cl .f32))

theorem cl2_succ {xs ys : List Nat} {k : Nat} (hall : ∀ (j : Nat) (x y : Nat), j < k → xs[j]? = some x → ys[j]? = some y → cl .f32 x = cl .f32 y) (h1 : k < xs.length) (h2 : k < ys.length) (h : cl .f32 xs[k] = cl .f32 ys[k]) :
    ∀ (j : Nat) (x y : Nat), j < k + 1 → xs[j]? = some x → ys[j]? = some y → cl .f32 x = cl .f32 y := fun j x y hj hx hy => by
  rcases Nat.lt_or_ge j k with h' | h'
  · exact hall j x y h' hx hy
  · obtain rfl : j = k := by omega
    rw [List.getElem?_eq_getElem h1] at hx
    rw [List.getElem?_eq_getElem h2] at hy
    injection hx with hx
    injection hy with hy
    rw [← hx, ← hy]
    exact h

theorem sameFs_all {xs ys : List Nat} (hl : xs.length = ys.length) (h : ∀ (j : Nat) (x y : Nat), j < xs.length → xs[j]? = some x → ys[j]? = some y → cl .f32 x = cl .f32 y) : sameFs xs ys = true := by
  unfold sameFs
  rw [decide_eq_true_eq]
  apply List.ext_getElem (by simpa using hl)
  intro i h1 h2
  simp only [List.length_map] at h1 h2
  simp only [List.getElem_map]
  exact h i _ _ h1 (List.getElem?_eq_getElem h1) (List.getElem?_eq_getElem h2)

theorem sameFs_not {xs ys : List Nat} {k : Nat} (h1 : k < xs.length) (h2 : k < ys.length) (h : same .f32 xs[k] ys[k] = false) : sameFs xs ys = false := by
  unfold sameFs same at *
  rw [decide_eq_false_iff_not] at h ⊢
  exact fun e => h (map_at e h1 h2)

theorem sameFs_len {xs ys : List Nat} (h : xs.length ≠ ys.length) : sameFs xs ys = false := by
  unfold sameFs
  rw [decide_eq_false_iff_not]
  intro e
  exact h (by simpa using congrArg List.length e)

/-- A list that came in. -/
def LIn (w : World) (K : Nat) (A : Option Addr) (n : Nat) (xs : List Nat) : Prop := Fl w K A n xs ∧ n ≤ 1048576 ∧ ∀ x ∈ xs, fits x

theorem LIn.grew {w w' : World} {K n : Nat} {A : Option Addr} {xs : List Nat} (h : LIn w K A n xs) (hK : K ≤ w.heap.size) (hg : Grew w w') : LIn w' K A n xs :=
  ⟨Slc.grew (g := Value.float .f32) h.1 hK hg, h.2⟩

end Go.Proofs.Ytlakmogclcpgdaa

