/-
  CONTRACTS: how far a list of places turns.
-/
import Derived.Test.YtkippcjifikegaaYawS
import Derived.Test.YtkippcjifikegaaGrid
import Derived.Test.YtkippcjifikegaaTurn2
import Derived.Test.YtkippcjifikegaaInts
namespace Go.Proofs.Ytkippcjifikegaa
open Go.RowKit Go.Flt
set_option linter.unusedVariables false
set_option maxRecDepth 100000
set_option linter.unusedSimpArgs false

/-- The way from one place to the next. -/
def dif (xs : List Nat) (k : Nat) : Ieee.Datum := fop .sub .f32 (cl .f32 (xs.getD (k + 1) 0)) (cl .f32 (xs.getD k 0))

def trn (xs : List Nat) : Nat → Ieee.Datum
  | 0 => cl .f32 0
  | k + 1 => fop .add .f32 (trn xs k) (absD (wrp (dif xs k)))

def difs (xs : List Nat) : Bool := (List.range (xs.length - 1)).all fun j => fin (dif xs j)

def okT (xs : List Nat) : Bool := decide (xs.length ≤ 128) && (xs.all fun x => fin (cl .f32 x)) && difs xs

def turn (xs : List Nat) : Ieee.Datum := if okT xs then trn xs (xs.length - 1) else cl .f32 0

theorem difs_no {xs : List Nat} {k : Nat} (h : k < xs.length - 1) (hf : fin (dif xs k) = false) : difs xs = false := by
  unfold difs
  rw [List.all_eq_false]
  exact ⟨k, List.mem_range.2 h, by rw [hf]; simp⟩

theorem difs_all {xs : List Nat} (h : ∀ k, k < xs.length - 1 → fin (dif xs k) = true) : difs xs = true := by
  unfold difs
  rw [List.all_eq_true]
  exact fun k hk => h k (List.mem_range.1 hk)

/-- What one more place does to the sum. -/
theorem trn_step {xs : List Nat} {k r : Nat} (hk : k < 128) (h : Sum k (trn xs k)) (hr : cl .f32 r = wrp (dif xs k)) (hf : fits r) (hd : fin (dif xs k) = true) :
    Sum (k + 1) (trn xs (k + 1)) ∧ fop .add .f32 (trn xs k) (absD (cl .f32 r)) = trn xs (k + 1) ∧ fop .add .f32 (trn xs k) (sizeD (cl .f32 r)) = trn xs (k + 1) := by
  have hn : isNum (cl .f32 r) = true ∧ (iv (-1074) (cl .f32 r)).natAbs ≤ tw 1155 := by
    rw [hr]
    unfold dif at *
    cases hb : floatBits .sub .f32 (xs.getD (k + 1) 0) (xs.getD k 0) with
    | none =>
      rw [fop_of_none hb] at hd
      have : fin NaN = false := by decide +kernel
      rw [this] at hd
      cases hd
    | some z =>
      rw [← fop_of_bits hb] at hd ⊢
      rw [fin_eq] at hd
      exact ⟨fin_wrp z (by rw [fin_eq]; exact hd), (wrp_small z hd).2⟩
  obtain ⟨s1, s2⟩ := sum_step hk h hf hn.1 hn.2
  rw [hr] at s1 s2 ⊢
  exact ⟨s1, rfl, s2⟩

theorem all_no {xs : List Nat} {k : Nat} {P : Nat → Bool} (h : k < xs.length) (hp : P xs[k] = false) : xs.all P = false := by
  rw [List.all_eq_false]
  exact ⟨xs[k], List.getElem_mem h, by rw [hp]; simp⟩

theorem all_yes {xs : List Nat} {P : Nat → Bool} (h : ∀ (j x : Nat), xs[j]? = some x → P x = true) : xs.all P = true := by
  rw [List.all_eq_true]
  intro x hx
  obtain ⟨j, hj, rfl⟩ := List.getElem_of_mem hx
  exact h j _ (List.getElem?_eq_getElem hj)


set_option maxHeartbeats 2000000 in
theorem c_implTurnedBy (A : Option Addr) (n cap K : Nat) (xs : List Nat) (w : World) (h : Fl w K A n xs) (hn : n ≤ 1048576) :
    Calls Try.prog 13 #[.slice A n cap] w (RetFB (turn xs) (okT xs) (Drawn w)) := by
  obtain rfl := h.1
  have HS := Lib.hid h
  clear h
  cases hlen : decide ((128 : Int) < (xs.length : Int))
  case true =>
    have hk : okT xs = false := by
      have : ¬ xs.length ≤ 128 := by have := of_decide_eq_true hlen; omega
      simp [okT, this]
    rw [turn, hk]
    go_enter Try.func13, Try.ntmps13
    go_wp2_with fail
    go_ret2
    exact ⟨_, rfl, rfl, fits_zero, by (first | exact ⟨_, rfl⟩ | exact ⟨0, rfl⟩ | exact ⟨_, World.drewN_drewN _ _ _⟩ | (simp only [World.drewN_drewN]; exact ⟨_, rfl⟩))⟩
  have hl : xs.length ≤ 128 := by have := of_decide_eq_false hlen; omega
  have hml : xs.length ≤ maxLen := by unfold maxLen; omega
  cases hall : xs.all (fun x => fin (cl .f32 x))
  case false =>
    have hk : okT xs = false := by simp only [okT, hall]; simp
    rw [turn, hk]
    go_enter Try.func13, Try.ntmps13
    go_wp2_with (go_at_call 32; refine (c_impl.areFinite _ _ _ K xs _ HS.out hml).mono ?_; rintro e w' ⟨rfl, nq, rfl⟩)
    go_ret2
    exact ⟨_, rfl, rfl, fits_zero, by (first | exact ⟨_, rfl⟩ | exact ⟨0, rfl⟩ | exact ⟨_, World.drewN_drewN _ _ _⟩ | (simp only [World.drewN_drewN]; exact ⟨_, rfl⟩))⟩
  have HE : Hid (okT xs = difs xs) := by
    show okT xs = difs xs
    simp only [okT, hall]
    simp [hl]
  go_enter Try.func13, Try.ntmps13
  go_wp2_with (go_at_call 32; refine (c_impl.areFinite _ _ _ K xs _ HS.out hml).mono ?_; rintro e w' ⟨rfl, nq, rfl⟩)
  clear hall hml
  go_loopw [4, 5] (fun s i wr => ∃ k z : Nat, k ≤ xs.length - 1 ∧ i = .int .i64 (k + 1 : Nat) ∧ s = .float .f32 z ∧ Hid (cl .f32 z = trn xs k) ∧ Hid (fits z) ∧ Hid (Sum k (trn xs k)) ∧ Hid (∀ j, j < k → fin (dif xs j) = true) ∧ ∃ m, wr = w.drewN m) (fun _ i _ => xs.length - (intOf i).toNat)
  case atStart => exact ⟨0, 0, Nat.zero_le _, rfl, rfl, rfl, fits_zero, sum_none, fun _ h => absurd h (by omega), by (first | exact ⟨_, rfl⟩ | exact ⟨0, rfl⟩ | exact ⟨_, World.drewN_drewN _ _ _⟩ | (simp only [World.drewN_drewN]; exact ⟨_, rfl⟩))⟩
  case round =>
    obtain ⟨k, z, hk, rfl, rfl, hz0, hzf, hsum, hall, m, rfl⟩ := hrel
    by_cases hlt : k + 1 < xs.length
    · obtain ⟨b, off, rfl, _, hc⟩ := HS.out.2 (by omega)
      have hc1 := hc (k + 1) (xs.getD (k + 1) 0) (by simp [hlt])
      have hc2 := hc k (xs.getD k 0) (by simp [Nat.lt_of_succ_lt hlt])
      clear hc
      have i1 : (0 : Int) ≤ (k : Int) + 1 := by omega
      have i2 : (k : Int) + 1 < (xs.length : Int) := by omega
      have i3 : IntKind.i64.wrap ((k : Int) + 1 - 1) = (k : Int) := by rw [IntKind.wrap_i64]; omega
      have i4 : (k : Int) < (xs.length : Int) := by omega
      have i6 : IntKind.i64.wrap (k : Int) = (k : Int) := by rw [IntKind.wrap_i64]; omega
      have i5 : ((k : Int) + 1).toNat = k + 1 := by omega
      have hT := Lib.hid (fun r => trn_step (xs := xs) (k := k) (r := r) (by omega) hsum.out)
      have HD : Hid (fop .sub .f32 (cl .f32 (xs.getD (k + 1) 0)) (cl .f32 (xs.getD k 0)) = dif xs k) := rfl
      have HN := Lib.hid (difs_no (xs := xs) (k := k) (by omega))
      generalize xs.getD (k + 1) 0 = x at *
      generalize xs.getD k 0 = y at *
      cases hd : fin (dif xs k)
      · have hkk : okT xs = false := by rw [HE.out]; exact HN.out hd
        rw [turn, hkk]
        have hd' : fin (fop .sub .f32 (cl .f32 x) (cl .f32 y)) = false := by rw [HD.out]; exact hd
        go_wp2_with fail
        try simp only [List.append_eq, List.cons_append, List.nil_append]
        refine wp_region_drawnC (by kernel_rfl) (by kernel_rfl) ?_
        repeat (first | (refine wpFree_skip rfl ?_; try go_simp) | (refine wpFree_want rfl (fun K hK => ?_); first | (refine free_fbin drawn_draw rfl rfl _ _ _ rfl rfl ?_; intro z hz hzw; go_simp; refine hK _ ?_; clear hK K) | (intro wq hq; obtain ⟨hqc, hqf, hqh⟩ := drawn_cells hq; go_simp; first | (refine hK _ ?_; clear hK K; try clear hqc hqf; try clear hqh; try clear hq; try clear wq) | ((with_reducible refine free_at 34 ?_); refine free_fb _ _ (by kernel_rfl) (fun wr hr => (c_WrapR _ _).mono fun e w'' ⟨r, he, h1, h2, hw⟩ => ⟨r, he, h1, h2, drawn_trans hr hw⟩) ?_; intro r hr hrf; refine hK _ ?_; clear hK K; try clear hqc hqf; try clear hqh; try clear hq; try clear wq))))
        refine wpFree_nil ?_
        intro wq hq
        obtain ⟨nq, rfl⟩ := hq
        go_wp2_with fail
        go_ret2
        exact ⟨_, rfl, rfl, fits_zero, by (first | exact ⟨_, rfl⟩ | exact ⟨0, rfl⟩ | exact ⟨_, World.drewN_drewN _ _ _⟩ | (simp only [World.drewN_drewN]; exact ⟨_, rfl⟩))⟩
      · have hd' : fin (fop .sub .f32 (cl .f32 x) (cl .f32 y)) = true := by rw [HD.out]; exact hd
        have HD2 := Lib.hid hd
        have HY := Lib.hid (show yawR (dif xs k) = wrp (dif xs k) by simp [yawR, hd])
        clear hd
        go_wp2_with fail
        try simp only [List.append_eq, List.cons_append, List.nil_append]
        refine wp_region_drawnC (by kernel_rfl) (by kernel_rfl) ?_
        repeat (first | (refine wpFree_skip rfl ?_; try go_simp) | (refine wpFree_want rfl (fun K hK => ?_); first | (refine free_fbin drawn_draw rfl rfl _ _ _ rfl rfl ?_; intro z hz hzw; go_simp; refine hK _ ?_; clear hK K) | (intro wq hq; obtain ⟨hqc, hqf, hqh⟩ := drawn_cells hq; go_simp; first | (refine hK _ ?_; clear hK K; try clear hqc hqf; try clear hqh; try clear hq; try clear wq) | ((with_reducible refine free_at 34 ?_); refine free_fb _ _ (by kernel_rfl) (fun wr hr => (c_WrapR _ _).mono fun e w'' ⟨r, he, h1, h2, hw⟩ => ⟨r, he, h1, h2, drawn_trans hr hw⟩) ?_; intro r hr hrf; refine hK _ ?_; clear hK K; try clear hqc hqf; try clear hqh; try clear hq; try clear wq))))
        refine wpFree_nil ?_
        intro wq hq
        obtain ⟨nq, rfl⟩ := hq
        go_wp2_with (first | (refine upon_fbin rfl _ _ _ _ ?_; intro z n hz hzw) | (go_at_call 35; refine (c_absolute _ _ (by assumption)).mono ?_; rintro e w' ⟨r2, rfl, hr2, hrf2, nq2, rfl⟩))
        go_roundw
        case rel =>
          rename_i zz hzz hzzw
          obtain ⟨t1, t2, t3⟩ := hT.out r (by rw [hr, hzz, HD.out, HY.out]) hrf HD2.out
          exact ⟨k + 1, z, by omega, by go_num, rfl, by show cl .f32 z = _; rw [hz, hr2, hz0.out]; exact t2, hzw, t1, fun j hj => (by
            rcases Nat.lt_or_ge j k with h | h
            · exact hall.out j h
            · obtain rfl : j = k := by omega
              exact HD2.out), by (first | exact ⟨_, rfl⟩ | exact ⟨0, rfl⟩ | exact ⟨_, World.drewN_drewN _ _ _⟩ | (simp only [World.drewN_drewN]; exact ⟨_, rfl⟩))⟩
        case measure => simp [intOf]; omega
    · have hkk : okT xs = true := by rw [HE.out]; exact difs_all fun j hj => hall.out j (by omega)
      have hk2 : k = xs.length - 1 := by omega
      have HV := Lib.hid (show turn xs = trn xs k by rw [turn, hkk, if_pos rfl, ← hk2])
      have HO := Lib.hid hkk
      clear hkk
      have HK := Lib.hid (show ¬ ((k : Int) + 1 < (xs.length : Int)) by omega)
      clear hk2
      have hfz : fin (cl .f32 z) = true := by rw [hz0.out, fin_eq]; exact sum_fin hsum.out
      go_wp2_with (go_at_call 40; refine (c_checked _ _).mono ?_; rintro e w' ⟨rfl, nq, rfl⟩)
      go_ret2
      exact ⟨chkW z, by rw [HO.out]; rfl, by rw [HV.out, cl_chkW, ← hz0.out]; simp [chk, hfz], fits_chkW hzf.out, by (first | exact ⟨_, rfl⟩ | exact ⟨0, rfl⟩ | exact ⟨_, World.drewN_drewN _ _ _⟩ | (simp only [World.drewN_drewN]; exact ⟨_, rfl⟩))⟩

end Go.Proofs.Ytkippcjifikegaa
