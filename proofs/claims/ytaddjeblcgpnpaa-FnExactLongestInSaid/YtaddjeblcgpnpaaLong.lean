/-
  CONTRACTS: the longest run of a state.
-/
import Derived.Test.YtaddjeblcgpnpaaStates
namespace Go.Proofs.Ytaddjeblcgpnpaa
open Go.RowKit Go.Flt
set_option linter.unusedVariables false
set_option linter.unusedSimpArgs false

/-- The run that ends below place k, and the longest so far. -/
def ownR (xs : List Int) (s : Int) : Nat → Nat
  | 0 => 0
  | k + 1 => if xs.getD k 0 = s then ownR xs s k + 1 else 0

def long (xs : List Int) (s : Int) : Nat → Nat
  | 0 => 0
  | k + 1 => max (long xs s k) (ownR xs s (k + 1))

theorem ownR_le (xs : List Int) (s : Int) (k : Nat) : ownR xs s k ≤ k := by
  induction k with
  | zero => simp [ownR]
  | succ k ih => unfold ownR; split <;> omega

theorem long_le (xs : List Int) (s : Int) (k : Nat) : long xs s k ≤ k := by
  induction k with
  | zero => simp [long]
  | succ k ih => have := ownR_le xs s (k + 1); unfold long; omega

def okL (xs : List Int) (s : Int) : Bool := states xs && within s 0 4

def longest (xs : List Int) (s : Int) : Int := if okL xs s then long xs s xs.length else 0


theorem c_l00Max (a b : Nat) (w : World) : Calls Try.prog 63 #[.int .i64 (a : Int), .int .i64 (b : Int)] w fun e w' => e = .returned (.int .i64 ((max a b : Nat) : Int)) ∧ ∃ n, w' = w.drewN n := by
  by_cases h : b < a
  · have hm : max a b = a := by omega
    have HM := Lib.hid hm
    have hd : decide (b < a) = true := by simp; omega
    clear hm h
    go_enter Try.func63, Try.ntmps63
    go_wp2_with fail
    go_ret
    exact ⟨by rw [HM.out]; rfl, 0, rfl⟩
  · have hm : max a b = b := by omega
    have HM := Lib.hid hm
    have hd : decide (b < a) = false := by simp; omega
    clear hm h
    go_enter Try.func63, Try.ntmps63
    go_wp2_with fail
    go_ret
    exact ⟨by rw [HM.out]; rfl, 0, rfl⟩

theorem c_specLongestIn (A : Option Addr) (n cap K : Nat) (xs : List Int) (s : Int) (w : World) (h : Slc (Value.int .i64) w K A n xs) (hn : n ≤ 1048576) :
    Calls Try.prog 32 #[.slice A n cap, .int .i64 s] w fun e w' => e = .returned (.tuple #[.int .i64 (longest xs s), .bool (okL xs s)]) ∧ ∃ n, w' = w.drewN n := by
  cases hst : states xs
  case false =>
    have HS := Lib.hid h
    clear h
    go_enter Try.func32, Try.ntmps32
    go_wp2_with (go_at_call 58; refine (c_spec.l05States _ _ _ K xs _ HS.out hn).mono ?_; rintro e w' ⟨rfl, nq, rfl⟩)
    go_ret2
    exact ⟨by simp [longest, okL, hst], _, rfl⟩
  cases hs : within s 0 4
  case false =>
    have HS := Lib.hid h
    clear h
    go_enter Try.func32, Try.ntmps32
    go_wp2_with (first | (go_at_call 58; refine (c_spec.l05States _ _ _ K xs _ HS.out hn).mono ?_; rintro e w' ⟨rfl, nq, rfl⟩) | (go_at_call 62; refine (c_l00In _ _ _ _).mono ?_; rintro e w' ⟨rfl, nq, rfl⟩))
    go_ret2
    exact ⟨by simp [longest, okL, hst, hs], _, rfl⟩
  obtain rfl := h.1
  have HS := Lib.hid h
  clear h
  go_enter Try.func32, Try.ntmps32
  go_wp2_with (first | (go_at_call 58; refine (c_spec.l05States _ _ _ K xs _ HS.out hn).mono ?_; rintro e w' ⟨rfl, nq, rfl⟩) | (go_at_call 62; refine (c_l00In _ _ _ _).mono ?_; rintro e w' ⟨rfl, nq, rfl⟩))
  have HT : Hid (okL xs s = true) := by show okL xs s = true; simp [okL, hst, hs]
  clear hst hs
  go_loopw [6, 7, 19] (fun m o i wr => ∃ k : Nat, k ≤ xs.length ∧ i = .int .i64 k ∧ m = .int .i64 (long xs s k) ∧ o = .int .i64 (ownR xs s k) ∧ ∃ m, wr = w.drewN m) (fun _ _ i _ => xs.length - (intOf i).toNat)
  case atStart => exact ⟨0, Nat.zero_le _, rfl, rfl, rfl, _, rfl⟩
  case round =>
    obtain ⟨k, hk, rfl, rfl, rfl, m, rfl⟩ := hrel
    have l1 := ownR_le xs s k
    have l2 := long_le xs s k
    by_cases hlt : k < xs.length
    · obtain ⟨b, off, rfl, _, hc⟩ := HS.out.2 (by omega)
      have hc1 := hc k (xs.getD k 0) (by simp [hlt])
      clear hc
      have ho : ownR xs s (k + 1) = if xs.getD k 0 = s then ownR xs s k + 1 else 0 := rfl
      have HL : Hid (long xs s (k + 1) = max (long xs s k) (ownR xs s (k + 1))) := rfl
      generalize xs.getD k 0 = x at *
      by_cases hxs : x = s
      · have e1 : (x == s) = true := by simp [hxs]
        have HO : Hid (ownR xs s (k + 1) = ownR xs s k + 1) := by rw [ho, if_pos hxs]; rfl
        clear ho hxs
        go_wp2_with (first | (go_at_call 63; refine (c_l00Max (long xs s k) (ownR xs s k + 1) _).mono ?_; rintro e w' ⟨rfl, nq, rfl⟩))
        go_roundw
        case rel => exact ⟨k + 1, by omega, by go_num, by rw [HL.out, HO.out], by rw [HO.out]; go_num, by (first | exact ⟨_, rfl⟩ | exact ⟨0, rfl⟩ | exact ⟨_, World.drewN_drewN _ _ _⟩ | (simp only [World.drewN_drewN]; exact ⟨_, rfl⟩))⟩
        case measure => simp [intOf]; omega
      · have e1 : (x == s) = false := by simp [hxs]
        have HO : Hid (ownR xs s (k + 1) = 0) := by rw [ho, if_neg hxs]; rfl
        clear ho hxs
        go_wp2_with (first | (go_at_call 63; refine (c_l00Max (long xs s k) 0 _).mono ?_; rintro e w' ⟨rfl, nq, rfl⟩))
        go_roundw
        case rel => exact ⟨k + 1, by omega, by go_num, by rw [HL.out, HO.out, Nat.max_zero], by rw [HO.out]; rfl, by (first | exact ⟨_, rfl⟩ | exact ⟨0, rfl⟩ | exact ⟨_, World.drewN_drewN _ _ _⟩ | (simp only [World.drewN_drewN]; exact ⟨_, rfl⟩))⟩
        case measure => simp [intOf]; omega
    · obtain rfl : k = xs.length := by omega
      go_wp2_with fail
      go_ret2
      exact ⟨by simp only [longest, HT.out]; rfl, by (first | exact ⟨_, rfl⟩ | exact ⟨0, rfl⟩ | exact ⟨_, World.drewN_drewN _ _ _⟩ | (simp only [World.drewN_drewN]; exact ⟨_, rfl⟩))⟩

theorem c_implLongestIn (A : Option Addr) (n cap K : Nat) (xs : List Int) (s : Int) (w : World) (h : Slc (Value.int .i64) w K A n xs) (hn : n ≤ 1048576) :
    Calls Try.prog 33 #[.slice A n cap, .int .i64 s] w fun e w' => e = .returned (.tuple #[.int .i64 (longest xs s), .bool (okL xs s)]) ∧ ∃ n, w' = w.drewN n := by
  cases hst : states xs
  case false =>
    have HS := Lib.hid h
    clear h
    go_enter Try.func33, Try.ntmps33
    go_wp2_with (go_at_call 59; refine (c_impl.areStates _ _ _ K xs _ HS.out hn).mono ?_; rintro e w' ⟨rfl, nq, rfl⟩)
    go_ret2
    exact ⟨by simp [longest, okL, hst], _, rfl⟩
  cases hs : within s 0 4
  case false =>
    have HS := Lib.hid h
    clear h
    go_enter Try.func33, Try.ntmps33
    go_wp2_with (first | (go_at_call 59; refine (c_impl.areStates _ _ _ K xs _ HS.out hn).mono ?_; rintro e w' ⟨rfl, nq, rfl⟩) | (go_at_call 55; refine (c_isState _ _).mono ?_; rintro e w' ⟨rfl, nq, rfl⟩))
    go_ret2
    exact ⟨by simp [longest, okL, hst, hs], _, rfl⟩
  obtain rfl := h.1
  have HS := Lib.hid h
  clear h
  go_enter Try.func33, Try.ntmps33
  go_wp2_with (first | (go_at_call 59; refine (c_impl.areStates _ _ _ K xs _ HS.out hn).mono ?_; rintro e w' ⟨rfl, nq, rfl⟩) | (go_at_call 55; refine (c_isState _ _).mono ?_; rintro e w' ⟨rfl, nq, rfl⟩))
  have HT : Hid (okL xs s = true) := by show okL xs s = true; simp [okL, hst, hs]
  clear hst hs
  go_loopw [6, 7, 20] (fun m o i wr => ∃ k : Nat, k ≤ xs.length ∧ i = .int .i64 k ∧ m = .int .i64 (long xs s k) ∧ o = .int .i64 (ownR xs s k) ∧ ∃ m, wr = w.drewN m) (fun _ _ i _ => xs.length - (intOf i).toNat)
  case atStart => exact ⟨0, Nat.zero_le _, rfl, rfl, rfl, _, rfl⟩
  case round =>
    obtain ⟨k, hk, rfl, rfl, rfl, m, rfl⟩ := hrel
    have l1 := ownR_le xs s k
    have l2 := long_le xs s k
    by_cases hlt : k < xs.length
    · obtain ⟨b, off, rfl, _, hc⟩ := HS.out.2 (by omega)
      have hc1 := hc k (xs.getD k 0) (by simp [hlt])
      clear hc
      have ho : ownR xs s (k + 1) = if xs.getD k 0 = s then ownR xs s k + 1 else 0 := rfl
      have HL : Hid (long xs s (k + 1) = max (long xs s k) (ownR xs s (k + 1))) := rfl
      generalize xs.getD k 0 = x at *
      by_cases hxs : x = s
      · have e1 : (x != s) = false := by simp [hxs]
        have HO : Hid (ownR xs s (k + 1) = ownR xs s k + 1) := by rw [ho, if_pos hxs]; rfl
        clear ho hxs
        go_wp2_with fail
        go_roundw
        case rel => exact ⟨k + 1, by omega, by go_num, by rw [HL.out, HO.out]; congr 1; split <;> omega, by rw [HO.out]; go_num, by (first | exact ⟨_, rfl⟩ | exact ⟨0, rfl⟩ | exact ⟨_, World.drewN_drewN _ _ _⟩ | (simp only [World.drewN_drewN]; exact ⟨_, rfl⟩))⟩
        case measure => simp [intOf]; omega
      · have e1 : (x != s) = true := by simp [hxs]
        have HO : Hid (ownR xs s (k + 1) = 0) := by rw [ho, if_neg hxs]; rfl
        clear ho hxs
        go_wp2_with fail
        go_roundw
        case rel => exact ⟨k + 1, by omega, by go_num, by rw [HL.out, HO.out, Nat.max_zero], by rw [HO.out]; rfl, by (first | exact ⟨_, rfl⟩ | exact ⟨0, rfl⟩ | exact ⟨_, World.drewN_drewN _ _ _⟩ | (simp only [World.drewN_drewN]; exact ⟨_, rfl⟩))⟩
        case measure => simp [intOf]; omega
    · obtain rfl : k = xs.length := by omega
      go_wp2_with fail
      go_ret2
      exact ⟨by simp only [longest, HT.out]; rfl, by (first | exact ⟨_, rfl⟩ | exact ⟨0, rfl⟩ | exact ⟨_, World.drewN_drewN _ _ _⟩ | (simp only [World.drewN_drewN]; exact ⟨_, rfl⟩))⟩

theorem walk_LongestIn (A : Option Addr) (n cap : Nat) (xs : List Int) (s : Int) (w : World) (h : Slc (Value.int .i64) w w.heap.size A n xs) (hm : n ≤ maxLen) (_ : (Lit.int .i64 s).wf = true) : Calls Try.prog 9 #[.slice A n cap, .int .i64 s] w fun e w' => e = .returned (.bool true) ∧ Below w.heap.size w w' := by
  unfold maxLen at hm
  by_cases hn : n ≤ 1048576
  · obtain rfl := h.1
    have HS := Lib.hid h
    have hd : decide ((1048576 : Int) < (xs.length : Int)) = false := by simp; omega
    clear h
    go_enter Try.func9, Try.ntmps9
    go_wp2_with fail
    refine (c_toInt64S A _ cap w.heap.size xs w HS.out (Nat.le_refl _) hn).mono ?_
    rintro e w1 ⟨b1, rfl, hb1, ho1, hg1⟩
    have O1 := Lib.hid ho1
    have G1 := Lib.hid hg1
    clear ho1 hg1
    go_wp2_with (go_at_call 32; refine (c_specLongestIn _ _ _ _ xs s _ (O1.out.slc (Nat.lt_succ_self _)) hn).mono ?_; rintro e w' ⟨rfl, nq, rfl⟩)
    have S2 : Slc (Value.int .i64) (w1.drewN nq) w.heap.size A xs.length xs := (HS.out.grew (Nat.le_refl _) G1.out).drewN nq
    refine (c_toInt64S A _ cap w.heap.size xs _ S2 (Below.size (grew_draw _ nq G1.out)) hn).mono ?_
    rintro e w2 ⟨b2, rfl, hb2, ho2, hg2⟩
    have O2 := Lib.hid ho2
    have G2 := Lib.hid (grew_trans (grew_draw _ nq G1.out) hg2)
    clear S2 ho2 hg2 hb2
    go_wp2_with (go_at_call 33; refine (c_implLongestIn _ _ _ _ xs s _ (O2.out.slc (Nat.lt_succ_self _)) hn).mono ?_; rintro e w' ⟨rfl, nq, rfl⟩)
    have S3 : Slc (Value.int .i64) (w2.drewN nq) w.heap.size A xs.length xs := (HS.out.grew (Nat.le_refl _) G2.out).drewN nq
    refine (c_toInt64S A _ cap w.heap.size xs _ S3 (Below.size (grew_draw _ nq G2.out)) hn).mono ?_
    rintro e w3 ⟨b3, rfl, hb3, ho3, hg3⟩
    have O3 := Lib.hid ho3
    have E3 := Lib.hid ((O2.out.drewN nq).grew hg3)
    have G3 := Lib.hid (grew_trans (grew_draw _ nq G2.out) hg3)
    clear S3 ho3 hg3 hb3
    have he : decide (xs = xs) = true := by simp
    go_wp2_with (go_at_call 29; refine (c_eqInt64S _ _ _ _ _ _ (b2 + b3 + 1) xs xs _ (E3.out.slc (by omega)) (O3.out.slc (by omega)) hn hn).mono ?_; rintro e w' ⟨rfl, nq, rfl⟩)
    go_ret
    exact ⟨rfl, grew_draw _ _ G3.out⟩
  · have hd : decide ((1048576 : Int) < (n : Int)) = true := by simp; omega
    clear h
    go_enter Try.func9, Try.ntmps9
    go_wp2_with fail
    go_ret
    exact ⟨rfl, by (repeat (first | exact Below.refl _ _ | refine below_draws ?_ _ | refine Below.alloc ?_ (by first | omega | (simp; done) | (simp; omega)) _ | refine Below.setCell ?_ (by first | omega | (simp; done) | (simp; omega)) _ | refine below_then (by assumption) (by first | omega | (simp; done) | (simp; omega)) ?_))⟩

end Go.Proofs.Ytaddjeblcgpnpaa
