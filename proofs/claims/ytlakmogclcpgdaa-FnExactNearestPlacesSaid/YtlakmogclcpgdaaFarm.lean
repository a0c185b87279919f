/-
  CONTRACTS: farms that a law copies, compares, marks.
-/
import Derived.Test.YtlakmogclcpgdaaSz
namespace Go.Proofs.Ytlakmogclcpgdaa
open Go.RowKit Go.Flt
set_option linter.unusedVariables false
set_option maxRecDepth 100000
set_option linter.unusedSimpArgs false

/-- A farm: the slices lie in rows of their own from block lo on, below block hi, in two blocks. -/
def FarmAt (w : World) (lo hi : Nat) (v : Value) (xs ys : List Nat) (r d s : Nat) : Prop :=
  ∃ X Y, v = .agg #[X, Y, .float .f32 r, .float .f32 d, .float .f32 s] ∧ FRow w lo hi X xs ∧ FRow w lo hi Y ys ∧ ∀ k, X.ownBlock = some k → Y.ownBlock ≠ some k

/-- The parts of a farm lie in block b. -/
def FmAt (w : World) (b : Nat) (X Y : Value) (r d s : Nat) : Prop :=
  w.cell? ⟨b, 0, none⟩ = some X ∧ w.cell? ⟨b, 1, none⟩ = some Y ∧ w.cell? ⟨b, 2, none⟩ = some (.float .f32 r) ∧ w.cell? ⟨b, 3, none⟩ = some (.float .f32 d) ∧ w.cell? ⟨b, 4, none⟩ = some (.float .f32 s)

theorem FmAt.grew {w w' : World} {b : Nat} {X Y : Value} {r d s : Nat} (h : FmAt w b X Y r d s) (hb : b < w.heap.size) (hg : Grew w w') : FmAt w' b X Y r d s := by
  obtain ⟨h0, h1, h2, h3, h4⟩ := h
  have hc := (bcell hg).1
  exact ⟨(hc _ _ hb).trans h0, (hc _ _ hb).trans h1, (hc _ _ hb).trans h2, (hc _ _ hb).trans h3, (hc _ _ hb).trans h4⟩

theorem FmAt.drewN {w : World} {b : Nat} {X Y : Value} {r d s : Nat} (h : FmAt w b X Y r d s) (n : Nat) : FmAt (w.drewN n) b X Y r d s := h

theorem c_szFarm (A A' : Option Addr) (n cap n' cap' r d s : Nat) (left : Int) (w : World) (hn : n ≤ maxLen) (hn' : n' ≤ maxLen) (h0 : 0 ≤ left) (h1 : left ≤ 1048576) :
    Calls Try.prog 17 #[.agg #[.slice A n cap, .slice A' n' cap', .float .f32 r, .float .f32 d, .float .f32 s], .int .i64 left] w fun e w' => e = .returned (.int .i64 (if left - n < 0 then -1 else sz (left - n) n')) ∧ Grew w w' := by
  have e0 := sz_neg left n
  have S1 := Lib.hid (fun w => c_szFloat32S A n cap left w hn h0 h1)
  cases hd : decide (left - (n : Int) < 0)
  · rw [hd] at e0
    have hl : ¬ left - (n : Int) < 0 := of_decide_eq_false hd
    have e1 : sz left n = left - n := by unfold sz; rw [if_neg hl]
    rw [if_neg hl]
    have e2 := sz_neg (left - n) n'
    rw [e1] at S1 e0
    have S2 := Lib.hid (fun w => c_szFloat32S A' n' cap' (left - n) w hn' (by omega) (by omega))
    generalize hz : left - (n : Int) = z at *
    clear e1 hd
    cases hd' : decide (z - (n' : Int) < 0)
    all_goals
      rw [hd'] at e2
      have HR := Lib.hid (show sz z n' = if z - (n' : Int) < 0 then -1 else sz z n' by unfold sz; split <;> rfl)
      have HD := Lib.hid hd'
      go_enter Try.func17, Try.ntmps17
      go_wp2_with fail
      refine (S1.out _).mono ?_
      rintro e w' ⟨rfl, nq, rfl⟩
      go_wp2_with fail
      refine (S2.out _).mono ?_
      rintro e w' ⟨rfl, nq2, rfl⟩
      go_wp2_with fail
      go_ret
    · exact ⟨rfl, by (show Below _ _ _; (repeat (first | exact Below.refl _ _ | refine ext_below ?_ (by first | omega | (simp only [size_ext, heap_push, Array.size_push, World.heap_drewN]; omega) | (simp; omega)) _ _ | refine below_draws ?_ _ | refine Below.alloc ?_ (by first | omega | (simp; done) | (simp; omega)) _ | refine Below.setCell ?_ (by first | omega | (simp; done) | (simp; omega)) _ | refine below_then (by assumption) (by first | omega | (simp; done) | (simp; omega)) ?_)))⟩
    · exact ⟨by have := HD.out; simp at this; rw [HR.out, if_pos this]; rfl, by (show Below _ _ _; (repeat (first | exact Below.refl _ _ | refine ext_below ?_ (by first | omega | (simp only [size_ext, heap_push, Array.size_push, World.heap_drewN]; omega) | (simp; omega)) _ _ | refine below_draws ?_ _ | refine Below.alloc ?_ (by first | omega | (simp; done) | (simp; omega)) _ | refine Below.setCell ?_ (by first | omega | (simp; done) | (simp; omega)) _ | refine below_then (by assumption) (by first | omega | (simp; done) | (simp; omega)) ?_)))⟩
  · rw [hd] at e0
    have hl : left - (n : Int) < 0 := of_decide_eq_true hd
    rw [if_pos hl]
    go_enter Try.func17, Try.ntmps17
    go_wp2_with (go_at_call 44; (refine (S1.out _).mono ?_; rintro e w' ⟨rfl, nq, rfl⟩))
    go_ret
    exact ⟨rfl, by (show Below _ _ _; (repeat (first | exact Below.refl _ _ | refine ext_below ?_ (by first | omega | (simp only [size_ext, heap_push, Array.size_push, World.heap_drewN]; omega) | (simp; omega)) _ _ | refine below_draws ?_ _ | refine Below.alloc ?_ (by first | omega | (simp; done) | (simp; omega)) _ | refine Below.setCell ?_ (by first | omega | (simp; done) | (simp; omega)) _ | refine below_then (by assumption) (by first | omega | (simp; done) | (simp; omega)) ?_)))⟩

theorem c_toFarm (A A' : Option Addr) (n cap n' cap' r d s : Nat) (xs ys : List Nat) (w : World) (h : Slc (Value.float .f32) w w.heap.size A n xs) (h' : Slc (Value.float .f32) w w.heap.size A' n' ys) (hn : n ≤ 1048576) (hn' : n' ≤ 1048576) :
    Calls Try.prog 19 #[.agg #[.slice A n cap, .slice A' n' cap', .float .f32 r, .float .f32 d, .float .f32 s]] w fun e w' => ∃ v, e = .returned v ∧ FarmAt w' w.heap.size w'.heap.size v xs ys r d s ∧ Grew w w' := by
  have HS := Lib.hid h
  have HT := Lib.hid h'
  clear h h'
  go_enter Try.func19, Try.ntmps19
  go_wp2_with fail
  refine (c_toF A n cap w.heap.size xs _ (HS.out.grew (Nat.le_refl _) (by (show Below _ _ _; (repeat (first | exact Below.refl _ _ | refine ext_below ?_ (by first | omega | (simp only [size_ext, heap_push, Array.size_push, World.heap_drewN]; omega) | (simp; omega)) _ _ | refine below_draws ?_ _ | refine Below.alloc ?_ (by first | omega | (simp; done) | (simp; omega)) _ | refine Below.setCell ?_ (by first | omega | (simp; done) | (simp; omega)) _ | refine below_then (by assumption) (by first | omega | (simp; done) | (simp; omega)) ?_))))) (by simp; omega) hn).mono ?_
  rintro e w1 ⟨X, rfl, hr1, hg1⟩
  have R1 := Lib.hid hr1
  have G1 := Lib.hid (grew_trans (show Grew w _ by (show Below _ _ _; (repeat (first | exact Below.refl _ _ | refine ext_below ?_ (by first | omega | (simp only [size_ext, heap_push, Array.size_push, World.heap_drewN]; omega) | (simp; omega)) _ _ | refine below_draws ?_ _ | refine Below.alloc ?_ (by first | omega | (simp; done) | (simp; omega)) _ | refine Below.setCell ?_ (by first | omega | (simp; done) | (simp; omega)) _ | refine below_then (by assumption) (by first | omega | (simp; done) | (simp; omega)) ?_)))) hg1)
  obtain ⟨hbc, hbf⟩ := bcell hg1
  have hsz := Below.size hg1
  simp at hsz
  have s1 : w.heap.size < w1.heap.size := by omega
  have s2 : w.heap.size + 1 < w1.heap.size := by omega
  have s3 : w.heap.size + 1 + 1 < w1.heap.size := by omega
  obtain ⟨A1, c1, rfl, _⟩ := hr1.slc
  clear hr1 hg1
  go_wp2_with fail
  refine (c_toF A' n' cap' w.heap.size ys _ (HT.out.grew (Nat.le_refl _) (grew_set G1.out (by omega))) (by simp [World.setCell]; omega) hn').mono ?_
  rintro e w2 ⟨Y, rfl, hr2, hg2⟩
  have G2 := Lib.hid (grew_trans (grew_set G1.out (by omega)) hg2)
  have R2 := Lib.hid hr2
  have R1' := Lib.hid (RowAt.grew (RowAt.outside R1.out (outside_set w1 (w.heap.size + 1 + 1) 0 (.slice A1 xs.length c1)) (.inr (by simp))) (by simp [World.setCell]) hg2)
  obtain ⟨hbc2, hbf2⟩ := bcell hg2
  have hsz2 := Below.size hg2
  simp [World.setCell] at hsz2
  have t1 : w.heap.size < w2.heap.size := by omega
  have t2 : w.heap.size + 1 < w2.heap.size := by omega
  have t3 : w.heap.size + 1 + 1 < w2.heap.size := by omega
  obtain ⟨A2, c2, rfl, _⟩ := hr2.slc
  clear hr2 hg2
  go_wp2_with fail
  have AP := Lib.hid (R1.out.apart R2.out (by simp [World.setCell]))
  refine bodyPost_ret (v := .agg #[.slice A1 xs.length c1, .slice A2 ys.length c2, .float .f32 r, .float .f32 d, .float .f32 s]) (by simp [results, Try.results19, go_sem, hbc, hbc2, s1, s2, s3, t1, t2, t3]) rfl ?_
  refine ⟨_, rfl, ⟨_, _, rfl, ?_, ?_, AP.out⟩, ?_⟩
  · exact RowAt.mono (RowAt.outside (a := w.heap.size) (b := w.heap.size + 1 + 1 + 1) R1'.out (by repeat (first | (with_reducible exact Outside.refl _ _ _) | (with_reducible refine Outside.trans ?_ (Outside.mono (outside_set _ _ _ _) ?_ ?_); rotate_left; omega; omega))) (.inr (by simp))) (by simp; omega) (by simp [World.setCell]; omega)
  · exact RowAt.mono (RowAt.outside (a := w.heap.size) (b := w.heap.size + 1 + 1 + 1) R2.out (by repeat (first | (with_reducible exact Outside.refl _ _ _) | (with_reducible refine Outside.trans ?_ (Outside.mono (outside_set _ _ _ _) ?_ ?_); rotate_left; omega; omega))) (.inr (by simp [World.setCell]; omega))) (by simp [World.setCell]; omega) (by simp [World.setCell])
  · exact Outside.below (lo := w.heap.size) (hi := w.heap.size + 1 + 1 + 1) G2.out (by repeat (first | (with_reducible exact Outside.refl _ _ _) | (with_reducible refine Outside.trans ?_ (Outside.mono (outside_set _ _ _ _) ?_ ?_); rotate_left; omega; omega))) (Nat.le_refl _)

theorem c_eqFarm (lo hi lo' hi' : Nat) (v v' : Value) (xs ys xs' ys' : List Nat) (r d s r' d' s' : Nat) (w : World) (h : FarmAt w lo hi v xs ys r d s) (h' : FarmAt w lo' hi' v' xs' ys' r' d' s')
    (e1 : xs.map (cl .f32) = xs'.map (cl .f32)) (e2 : ys.map (cl .f32) = ys'.map (cl .f32)) (er : cl .f32 r = cl .f32 r') (ed : cl .f32 d = cl .f32 d') (es : cl .f32 s = cl .f32 s') (hn : xs.length ≤ 1048576) (hn' : ys.length ≤ 1048576) :
    Calls Try.prog 14 #[v, v'] w fun e w' => e = .returned (.bool true) ∧ Grew w w' := by
  obtain ⟨X, Y, rfl, hx, hy, _⟩ := h
  obtain ⟨X', Y', rfl, hx', hy', _⟩ := h'
  have HX := Lib.hid (fun o o' => (hx.alloc o).alloc o')
  have HY := Lib.hid (fun o o' => (hy.alloc o).alloc o')
  have HX' := Lib.hid (fun o o' => (hx'.alloc o).alloc o')
  have HY' := Lib.hid (fun o o' => (hy'.alloc o).alloc o')
  obtain ⟨_, _, rfl, _⟩ := hx.slc
  obtain ⟨_, _, rfl, _⟩ := hy.slc
  obtain ⟨_, _, rfl, _⟩ := hx'.slc
  obtain ⟨_, _, rfl, _⟩ := hy'.slc
  have E1 := Lib.hid e1
  have E2 := Lib.hid e2
  clear hx hy hx' hy' e1 e2
  go_enter Try.func14, Try.ntmps14
  go_wp2_with fail
  refine (c_eqF _ _ _ _ _ _ xs xs' _ (HX.out _ _) (HX'.out _ _) E1.out hn).mono ?_
  rintro e w' ⟨rfl, n1, rfl⟩
  go_wp2_with fail
  refine (c_eqF _ _ _ _ _ _ ys ys' _ (RowAt.drewN (HY.out _ _) _) (RowAt.drewN (HY'.out _ _) _) E2.out hn').mono ?_
  rintro e w' ⟨rfl, n2, rfl⟩
  go_wp2_with (first | (refine upon_widen _ _ _ some_f32 Try.underlying43 ?_; intro z n hz hzw) | (go_at_call 27; refine (c_sameFloat _ _ _ (by simp only [*])).mono ?_; rintro e w' ⟨rfl, nq, rfl⟩))
  go_ret
  exact ⟨rfl, by (show Below _ _ _; (repeat (first | exact Below.refl _ _ | refine ext_below ?_ (by first | omega | (simp only [size_ext, heap_push, Array.size_push, World.heap_drewN]; omega) | (simp; omega)) _ _ | refine below_draws ?_ _ | refine Below.alloc ?_ (by first | omega | (simp; done) | (simp; omega)) _ | refine Below.setCell ?_ (by first | omega | (simp; done) | (simp; omega)) _ | refine below_then (by assumption) (by first | omega | (simp; done) | (simp; omega)) ?_)))⟩

theorem c_szFarm' (A A' : Option Addr) (n cap n' cap' r d s : Nat) (left : Int) (w : World) (hn : n ≤ maxLen) (hn' : n' ≤ maxLen) (h0 : 0 ≤ left) (h1 : left ≤ 1048576) :
    Calls Try.prog 17 #[.agg #[.slice A n cap, .slice A' n' cap', .float .f32 r, .float .f32 d, .float .f32 s], .int .i64 left] w fun e w' => e = .returned (.int .i64 (sz left (n + n'))) ∧ Grew w w' :=
  (c_szFarm A A' n cap n' cap' r d s left w hn hn' h0 h1).mono fun e w' ⟨he, hg⟩ => ⟨he.trans (by
    have : (if left - (n : Int) < 0 then (-1 : Int) else sz (left - n) n') = sz left (n + n') := by
      unfold sz
      split <;> (try split) <;> (try split) <;> omega
    rw [this]), hg⟩

section
variable {w w' : World} {lo hi : Nat} {v : Value} {xs ys : List Nat} {r d s : Nat}

theorem FarmAt.grew (h : FarmAt w lo hi v xs ys r d s) (hs : hi ≤ w.heap.size) (hg : Grew w w') : FarmAt w' lo hi v xs ys r d s := by
  obtain ⟨X, Y, e, hx, hy, hd⟩ := h
  exact ⟨X, Y, e, hx.grew hs hg, hy.grew hs hg, hd⟩

theorem FarmAt.drewN (h : FarmAt w lo hi v xs ys r d s) (n : Nat) : FarmAt (w.drewN n) lo hi v xs ys r d s := h

theorem FarmAt.keep (h : FarmAt w lo hi v xs ys r d s) (hk : ∀ k, lo ≤ k → k < hi → w'.heap[k]? = w.heap[k]?) : FarmAt w' lo hi v xs ys r d s := by
  obtain ⟨X, Y, e, hx, hy, hd⟩ := h
  exact ⟨X, Y, e, hx.keep hk, hy.keep hk, hd⟩

theorem FarmAt.wrote {a b : Nat} (h : FarmAt w lo hi v xs ys r d s) (hs : hi ≤ w.heap.size) (ho : Wrote a b w w') (hd : hi ≤ a ∨ b ≤ lo) : FarmAt w' lo hi v xs ys r d s := h.keep fun k h1 h2 => ho.block k (by omega) (by omega)

theorem FarmAt.parts (h : FarmAt w lo hi v xs ys r d s) : ∃ A c A' c', v = .agg #[.slice A xs.length c, .slice A' ys.length c', .float .f32 r, .float .f32 d, .float .f32 s] ∧ Fl w hi A xs.length xs ∧ Fl w hi A' ys.length ys := by
  obtain ⟨X, Y, rfl, hx, hy, _⟩ := h
  obtain ⟨A, c, rfl, h1⟩ := hx.slc
  obtain ⟨A', c', rfl, h2⟩ := hy.slc
  exact ⟨A, c, A', c', rfl, h1, h2⟩
end

theorem FarmAt.ne {w : World} {lo hi : Nat} {v : Value} {xs ys : List Nat} {r d s : Nat} (h : FarmAt w lo hi v xs ys r d s) : v ≠ undef := by
  obtain ⟨X, Y, rfl, _⟩ := h
  simp [undef]

/-- A farm of a call's own, made behind block B. -/
def FarmBy (B : Nat) (xs ys : List Nat) (r d s : Nat) (v : Value) (w' : World) : Prop := ∃ lo, B ≤ lo ∧ FarmAt w' lo w'.heap.size v xs ys r d s

theorem FarmBy.ne {B : Nat} {xs ys : List Nat} {r d s : Nat} {v : Value} {w' : World} (h : FarmBy B xs ys r d s v w') : v ≠ undef := by
  obtain ⟨_, _, h⟩ := h
  exact h.ne

theorem FarmBy.get {F : List (Tmp × (Value → World → World → Prop))} {w0 w' : World} {k : Tmp} {u : Value} {B : Nat} {xs ys : List Nat} {r d s : Nat} (h : Lasts F w0 k u w') (hu : u ≠ undef) (e : tabF F k = some (W2 (FarmBy B xs ys r d s))) : ∃ lo hi, B ≤ lo ∧ hi ≤ w'.heap.size ∧ FarmAt w' lo hi u xs ys r d s := by
  obtain ⟨_, w3, _, h1, h2, h3⟩ := h.get hu
  rw [ofOp_some, e] at h3
  obtain ⟨lo, hl, h3⟩ := h3
  exact ⟨lo, _, hl, Below.size h2, h3.grew (Nat.le_refl _) h2⟩

set_option maxHeartbeats 1000000 in
theorem c_markFarm (lo hi : Nat) (v : Value) (xs ys : List Nat) (r d s : Nat) (k : Int) (w : World) (h : FarmAt w lo hi v xs ys r d s) (hs : hi ≤ w.heap.size) (hn : xs.length ≤ 1048576) (hn' : ys.length ≤ 1048576) (h0 : 0 ≤ k) (h1 : k ≤ 4194304) :
    Calls Try.prog 15 #[v, .int .i64 k] w fun e w' => e = .returned (.int .i64 (k + xs.length + ys.length)) ∧ FarmAt w' lo hi v (mrkFloat32S k xs.length) (mrkFloat32S (k + xs.length) ys.length) r d s ∧ Wrote lo hi w w' := by
  obtain ⟨X, Y, rfl, hx, hy, hd⟩ := h
  have HX := Lib.hid (fun o => hx.alloc o)
  have HY := Lib.hid (fun o => hy.alloc o)
  have HD := Lib.hid hd
  have TX := Lib.hid (fun w w' h => RowAt.touched (row := none) (w := w) (w1 := w') (v := X) (xs := xs) (g := Value.float .f32) (t := 22) (lo := lo) (hi := hi) h)
  obtain ⟨A, c, rfl, _⟩ := hx.slc
  obtain ⟨A', c', rfl, _⟩ := hy.slc
  have bx : ∀ b, (Value.slice A xs.length c).ownBlock = some b → b < w.heap.size := fun b hb => Nat.lt_of_lt_of_le (hx.2 b hb) hs
  have BX := Lib.hid bx
  clear hx hy hd bx
  go_enter Try.func15, Try.ntmps15
  go_wp2_with fail
  refine (c_markFloat32S' _ lo hi xs k _ (HX.out _) (by omega) h0 (by omega)).mono ?_
  rintro e w1 ⟨rfl, hr1, ht1⟩
  have hc : ∀ o, w1.cell? ⟨w.heap.size, o, none⟩ = _ := fun o => ht1.cell (b := w.heap.size) (fun e => absurd (BX.out _ e.symm) (by omega)) o
  have R1 := Lib.hid hr1
  have S1 := Lib.hid (RowAt.touch (HY.out _) ht1 HD.out)
  have O1 := Lib.hid (RowAt.touched (row := none) (HX.out _) ht1)
  clear hr1 ht1
  go_wp2_with fail
  refine (c_markFloat32S' _ lo hi ys (k + xs.length) _ S1.out (by omega) (by omega) (by omega)).mono ?_
  rintro e w2 ⟨rfl, hr2, ht2⟩
  have R2 := Lib.hid (RowAt.touch R1.out ht2 (fun b h1 h2 => HD.out b (by simpa [Value.ownBlock] using h2) h1))
  have S2 := Lib.hid hr2
  have O2 := Lib.hid (RowAt.touched (row := none) S1.out ht2)
  clear hr2 ht2 hc
  go_wp2_with fail
  go_ret
  exact ⟨rfl, ⟨_, _, rfl, R2.out, S2.out, HD.out⟩, Wrote.trans (Wrote.of_grew (Below.alloc (Below.refl _ _) (Nat.le_refl _) _)) (Wrote.trans (Wrote.of_outside O1.out) (Wrote.of_outside O2.out))⟩

theorem c_heldFarm (lo hi n m : Nat) (v : Value) (r d s : Nat) (k : Int) (w : World) (h : FarmAt w lo hi v (mrkFloat32S k n) (mrkFloat32S (k + n) m) r d s) (hn : n ≤ 1048576) (hn' : m ≤ 1048576) (h0 : 0 ≤ k) (h1 : k ≤ 4194304) :
    Calls Try.prog 16 #[v, .int .i64 k] w fun e w' => e = .returned (.int .i64 (k + n + m)) ∧ Grew w w' := by
  obtain ⟨X, Y, rfl, hx, hy, hd⟩ := h
  have HX := Lib.hid (fun o => hx.alloc o)
  have HY := Lib.hid (fun o => hy.alloc o)
  obtain ⟨A, c, rfl, _⟩ := hx.slc
  obtain ⟨A', c', rfl, _⟩ := hy.slc
  clear hx hy hd
  have d1 : decide (k + (n : Int) < 0) = false := by simp; omega
  have d2 : decide (k + (n : Int) + (m : Int) < 0) = false := by simp; omega
  go_enter Try.func16, Try.ntmps16
  go_wp2_with fail
  refine (c_heldFloat32S _ lo hi n k _ (HX.out _) (by omega) h0 (by omega)).mono ?_
  rintro e w' ⟨rfl, n1, rfl⟩
  go_wp2_with fail
  refine (c_heldFloat32S _ lo hi m (k + n) _ (RowAt.drewN (HY.out _) _) (by omega) (by omega) (by omega)).mono ?_
  rintro e w' ⟨rfl, n2, rfl⟩
  go_wp2_with fail
  go_ret
  exact ⟨rfl, by (show Below _ _ _; (repeat (first | exact Below.refl _ _ | refine ext_below ?_ (by first | omega | (simp only [size_ext, heap_push, Array.size_push, World.heap_drewN]; omega) | (simp; omega)) _ _ | refine below_draws ?_ _ | refine Below.alloc ?_ (by first | omega | (simp; done) | (simp; omega)) _ | refine Below.setCell ?_ (by first | omega | (simp; done) | (simp; omega)) _ | refine below_then (by assumption) (by first | omega | (simp; done) | (simp; omega)) ?_)))⟩

end Go.Proofs.Ytlakmogclcpgdaa
