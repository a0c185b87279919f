/-
  CONTRACTS: plants and drives that are the same.
-/
import Derived.Deep.RegionWith
import Derived.Test.YtaddjeblcgpnpaaDrive
namespace Go.Proofs.Ytaddjeblcgpnpaa
open Go.RowKit Go.Flt
set_option linter.unusedVariables false
set_option linter.unusedSimpArgs false

def sameL : List Nat → List Nat → Bool
  | [], [] => true
  | x :: xs, y :: ys => same .f32 x y && sameL xs ys
  | _, _ => false

theorem sameL_len {xs ys : List Nat} (h : xs.length ≠ ys.length) : sameL xs ys = false := by
  induction xs generalizing ys with
  | nil => cases ys with
    | nil => exact absurd rfl h
    | cons y ys => rfl
  | cons x xs ih => cases ys with
    | nil => rfl
    | cons y ys => simp only [sameL, ih (ys := ys) (fun e => h (by simp [e])), Bool.and_false]

theorem sameL_all {xs ys : List Nat} (hl : xs.length = ys.length) (h : ∀ (j x y : Nat), xs[j]? = some x → ys[j]? = some y → same .f32 x y = true) : sameL xs ys = true := by
  induction xs generalizing ys with
  | nil => cases ys with
    | nil => rfl
    | cons y ys => simp at hl
  | cons x xs ih => cases ys with
    | nil => simp at hl
    | cons y ys =>
      simp only [sameL, h 0 x y rfl rfl, Bool.true_and]
      exact ih (by simpa using hl) fun j x y hx hy => h (j + 1) x y (by simpa using hx) (by simpa using hy)

theorem sameL_not {xs ys : List Nat} {k x y : Nat} (hx : xs[k]? = some x) (hy : ys[k]? = some y) (h : same .f32 x y = false) : sameL xs ys = false := by
  induction xs generalizing ys k with
  | nil => simp at hx
  | cons a xs ih => cases ys with
    | nil => simp at hy
    | cons b ys => cases k with
      | zero =>
        simp at hx hy
        simp [sameL, hx, hy, h]
      | succ k => simp only [sameL, ih (k := k) (ys := ys) (by simpa using hx) (by simpa using hy), Bool.and_false]

theorem c_EqualFunc (A : Option Addr) (B : Option Addr) (ca cb K : Nat) (xs ys : List Nat) (w : World) (h : Fl w K A xs.length xs) (h' : Fl w K B ys.length ys) (hm : xs.length ≤ maxLen) (hm' : ys.length ≤ maxLen) :
    Calls Try.prog 76 #[.slice A xs.length ca, .slice B ys.length cb, .func (.func 61) #[] #[]] w fun e w' => e = .returned (.bool (sameL xs ys)) ∧ ∃ n, w' = w.drewN n := by
  unfold maxLen at hm hm'
  by_cases hl : xs.length = ys.length
  · have HL := Lib.hid hl
    have hne : ((xs.length : Int) != (ys.length : Int)) = false := by simp [hl]
    clear hl
    have HF := Lib.hid h
    have HG := Lib.hid h'
    clear h h'
    go_enter Try.func76, Try.ntmps76
    go_wp2_with fail
    go_loopw [17] (fun i wr => ∃ k : Nat, k ≤ xs.length ∧ i = .int .i64 k ∧ Hid (∀ j x y, j < k → xs[j]? = some x → ys[j]? = some y → same .f32 x y = true) ∧ ∃ m, wr = w.drewN m) (fun i _ => xs.length - (intOf i).toNat)
    case atStart => exact ⟨0, Nat.zero_le _, rfl, fun _ _ _ h => absurd h (by omega), 0, rfl⟩
    case round =>
      obtain ⟨k, hk, rfl, hall, m, rfl⟩ := hrel
      by_cases hlt : k < xs.length
      · obtain ⟨_, hc⟩ := HF.out
        obtain ⟨b, off, rfl, _, hc⟩ := hc (by omega)
        obtain ⟨_, hd⟩ := HG.out
        have hl2 := HL.out
        obtain ⟨b', off', rfl, _, hd⟩ := hd (by omega)
        have hk2 : k < ys.length := by omega
        clear hl2
        have hcell := hc k xs[k] (List.getElem?_eq_getElem hlt)
        have hcell' := hd k ys[k] (List.getElem?_eq_getElem hk2)
        clear hc hd
        cases hs : same .f32 xs[k] ys[k]
        · have HX := Lib.hid hs
          go_wp2_with (go_at_call 61; refine (c_SameNumber _ _ _).mono ?_; rintro e w' ⟨rfl, nq, rfl⟩)
          go_ret
          exact ⟨by rw [sameL_not (List.getElem?_eq_getElem hlt) (List.getElem?_eq_getElem hk2) HX.out]; rfl, _, rfl⟩
        · have HX := Lib.hid hs
          go_wp2_with (go_at_call 61; refine (c_SameNumber _ _ _).mono ?_; rintro e w' ⟨rfl, nq, rfl⟩)
          go_roundw
          case rel => exact ⟨k + 1, by omega, by go_num, fun j x y hj hx hy => (by
            rcases Nat.lt_or_ge j k with h | h
            · exact hall.out j x y h hx hy
            · obtain rfl : j = k := by omega
              rw [List.getElem?_eq_getElem hlt] at hx
              rw [List.getElem?_eq_getElem hk2] at hy
              injection hx with hx
              injection hy with hy
              rw [← hx, ← hy]
              exact HX.out), _, rfl⟩
          case measure => simp [intOf]; omega
      · have HE := Lib.hid (sameL_all HL.out fun j x y hx hy => hall.out j x y (by have := (List.getElem?_eq_some_iff.1 hx).1; omega) hx hy)
        go_wp2_with fail
        go_ret
        exact ⟨by rw [HE.out]; rfl, _, rfl⟩
  · have HE := Lib.hid (sameL_len hl)
    have hne : ((xs.length : Int) != (ys.length : Int)) = true := by rw [bne_iff_ne]; omega
    clear hl h h'
    go_enter Try.func76, Try.ntmps76
    go_wp2_with fail
    go_ret
    exact ⟨by rw [HE.out]; rfl, 0, rfl⟩

theorem c_sameNumbers (A : Option Addr) (B : Option Addr) (n m ca cb K : Nat) (xs ys : List Nat) (w : World) (h : Fl w K A n xs) (h' : Fl w K B m ys) (hm : n ≤ maxLen) (hm' : m ≤ maxLen) :
    Calls Try.prog 52 #[.slice A n ca, .slice B m cb] w fun e w' => e = .returned (.bool (sameL xs ys)) ∧ ∃ n, w' = w.drewN n := by
  obtain rfl := h.1
  obtain rfl := h'.1
  have HF := Lib.hid h
  have HG := Lib.hid h'
  clear h h'
  go_enter Try.func52, Try.ntmps52
  go_wp2_with (go_at_call 76; refine (c_EqualFunc _ _ _ _ K xs ys _ HF.out HG.out hm hm').mono ?_; rintro e w' ⟨rfl, nq, rfl⟩)
  go_ret
  exact ⟨rfl, _, rfl⟩

def Pl.list (p : Pl) : List Nat := [p.i, p.d, p.r, p.l, p.m, p.s, p.c, p.e]
theorem c_numbersOf (p : Pl) (w : World) : Calls Try.prog 53 #[.agg #[.float .f32 p.i, .float .f32 p.d, .float .f32 p.r, .float .f32 p.l, .float .f32 p.m, .float .f32 p.s, .float .f32 p.c, .float .f32 p.e]] w fun e w' =>
    e = .returned (.slice (some ⟨w.heap.size + 1, 0, none⟩) 8 8) ∧ w' = (w.alloc (.cells #[.float .f32 p.i, .float .f32 p.d, .float .f32 p.r, .float .f32 p.l, .float .f32 p.m, .float .f32 p.s, .float .f32 p.c, .float .f32 p.e] 32)).alloc (.cells #[.float .f32 p.i, .float .f32 p.d, .float .f32 p.r, .float .f32 p.l, .float .f32 p.m, .float .f32 p.s, .float .f32 p.c, .float .f32 p.e] 22) := by
  go_enter Try.func53, Try.ntmps53
  go_wp2_with fail
  go_ret
  exact ⟨rfl, rfl⟩
def samePl (p q : Pl) : Bool := sameL p.list q.list

theorem c_sameTwo (p q : Pl) (b b' : Nat) (w : World) (h : w.heap[b]? = some (.cells #[.float .f32 p.i, .float .f32 p.d, .float .f32 p.r, .float .f32 p.l, .float .f32 p.m, .float .f32 p.s, .float .f32 p.c, .float .f32 p.e] 22 (0, 0))) (h' : w.heap[b']? = some (.cells #[.float .f32 q.i, .float .f32 q.d, .float .f32 q.r, .float .f32 q.l, .float .f32 q.m, .float .f32 q.s, .float .f32 q.c, .float .f32 q.e] 22 (0, 0))) :
    Calls Try.prog 52 #[.slice (some ⟨b, 0, none⟩) 8 8, .slice (some ⟨b', 0, none⟩) 8 8] w fun e w' => e = .returned (.bool (samePl p q)) ∧ ∃ n, w' = w.drewN n :=
  c_sameNumbers _ _ 8 8 8 8 (b + b' + 1) p.list q.list w (fl_block rfl rfl (by omega) h) (fl_block rfl rfl (by omega) h') (by simp [maxLen]) (by simp [maxLen])

set_option maxHeartbeats 4000000 in
theorem c_implSamePlant (p q : Pl) (w : World) : Calls Try.prog 22 #[.agg #[.float .f32 p.i, .float .f32 p.d, .float .f32 p.r, .float .f32 p.l, .float .f32 p.m, .float .f32 p.s, .float .f32 p.c, .float .f32 p.e], .agg #[.float .f32 q.i, .float .f32 q.d, .float .f32 q.r, .float .f32 q.l, .float .f32 q.m, .float .f32 q.s, .float .f32 q.c, .float .f32 q.e]] w fun e w' => e = .returned (.bool (samePl p q)) ∧ Below w.heap.size w w' := by
  go_enter Try.func22, Try.ntmps22
  go_wp2_with fail
  go_region_with (first | (go_at_call 53; refine (c_numbersOf _ _).mono ?_; rintro e w' ⟨rfl, rfl⟩) | (go_at_call 52; refine (c_sameTwo p q _ _ _ (by ((simp only [heap_push, heap_drew', World.heap_drewN, Array.getElem?_push, Array.size_push]; first | done | (simp; done)))) (by ((simp only [heap_push, heap_drew', World.heap_drewN, Array.getElem?_push, Array.size_push]; first | done | (simp; done))))).mono ?_; rintro e w' ⟨rfl, nq, rfl⟩))
  all_goals
    go_wp2_with fail
    go_ret
    exact ⟨rfl, by (repeat (first | exact Below.refl _ _ | refine below_draws ?_ _ | refine Below.alloc ?_ (by first | omega | (simp; done) | (simp; omega)) _ | refine Below.setCell ?_ (by first | omega | (simp; done) | (simp; omega)) _ | refine below_then (by assumption) (by first | omega | (simp; done) | (simp; omega)) ?_))⟩

set_option maxHeartbeats 2000000 in
theorem c_l05SamePlant (p q : Pl) (b off b' off' : Nat) (w : World) (hp : PlAt w b off p) (hq : PlAt w b' off' q) (fp : p.wf) (fq : q.wf) :
    Calls Try.prog 51 #[.pointer (some ⟨b, off, none⟩), .pointer (some ⟨b', off', none⟩)] w fun e w' => e = .returned (.bool (samePl p q)) ∧ ∃ n, w' = w.drewN n := by
  obtain ⟨h0, h1, h2, h3, h4, h5, h6, h7⟩ := hp
  obtain ⟨k0, k1, k2, k3, k4, k5, k6, k7⟩ := hq
  have FP := Lib.hid fp
  have FQ := Lib.hid fq
  clear fp fq
  have hS : samePl p q = (same .f32 p.i q.i && same .f32 p.d q.d && same .f32 p.r q.r && same .f32 p.l q.l && same .f32 p.m q.m && same .f32 p.s q.s && same .f32 p.c q.c && same .f32 p.e q.e) := by
    simp [samePl, Pl.list, sameL, Bool.and_assoc]
  have HS := Lib.hid hS
  clear hS
  go_enter Try.func51, Try.ntmps51
  go_wp2_with fail
  try simp only [List.append_eq, List.cons_append, List.nil_append]
  refine wp_region_quiet_lit (by kernel_rfl) (by kernel_rfl) ?_
  repeat (go_big_quiet_step ((go_at_call 75; exact Calls.quiet_of (c_l01Same _ _ _ (by have h := FP.out; unfold Pl.wf at h; simp only [h]) (by have h := FQ.out; unfold Pl.wf at h; simp only [h])))))
  cases qc0 : same .f32 p.i q.i
  case false =>
    repeat (go_big_quiet_step ((go_at_call 75; exact Calls.quiet_of (c_l01Same _ _ _ (by have h := FP.out; unfold Pl.wf at h; simp only [h]) (by have h := FQ.out; unfold Pl.wf at h; simp only [h])))))
    refine wpQuiet_nil ?_
    intro _ hw'
    obtain ⟨nq, hw''⟩ := hw'
    subst hw''
    go_wp2_with fail
    go_ret
    exact ⟨by rw [HS.out]; simp [*], _, rfl⟩
  repeat (go_big_quiet_step ((go_at_call 75; exact Calls.quiet_of (c_l01Same _ _ _ (by have h := FP.out; unfold Pl.wf at h; simp only [h]) (by have h := FQ.out; unfold Pl.wf at h; simp only [h])))))
  cases qc1 : same .f32 p.d q.d
  case false =>
    repeat (go_big_quiet_step ((go_at_call 75; exact Calls.quiet_of (c_l01Same _ _ _ (by have h := FP.out; unfold Pl.wf at h; simp only [h]) (by have h := FQ.out; unfold Pl.wf at h; simp only [h])))))
    refine wpQuiet_nil ?_
    intro _ hw'
    obtain ⟨nq, hw''⟩ := hw'
    subst hw''
    go_wp2_with fail
    go_ret
    exact ⟨by rw [HS.out]; simp [*], _, rfl⟩
  repeat (go_big_quiet_step ((go_at_call 75; exact Calls.quiet_of (c_l01Same _ _ _ (by have h := FP.out; unfold Pl.wf at h; simp only [h]) (by have h := FQ.out; unfold Pl.wf at h; simp only [h])))))
  cases qc2 : same .f32 p.r q.r
  case false =>
    repeat (go_big_quiet_step ((go_at_call 75; exact Calls.quiet_of (c_l01Same _ _ _ (by have h := FP.out; unfold Pl.wf at h; simp only [h]) (by have h := FQ.out; unfold Pl.wf at h; simp only [h])))))
    refine wpQuiet_nil ?_
    intro _ hw'
    obtain ⟨nq, hw''⟩ := hw'
    subst hw''
    go_wp2_with fail
    go_ret
    exact ⟨by rw [HS.out]; simp [*], _, rfl⟩
  repeat (go_big_quiet_step ((go_at_call 75; exact Calls.quiet_of (c_l01Same _ _ _ (by have h := FP.out; unfold Pl.wf at h; simp only [h]) (by have h := FQ.out; unfold Pl.wf at h; simp only [h])))))
  cases qc3 : same .f32 p.l q.l
  case false =>
    repeat (go_big_quiet_step ((go_at_call 75; exact Calls.quiet_of (c_l01Same _ _ _ (by have h := FP.out; unfold Pl.wf at h; simp only [h]) (by have h := FQ.out; unfold Pl.wf at h; simp only [h])))))
    refine wpQuiet_nil ?_
    intro _ hw'
    obtain ⟨nq, hw''⟩ := hw'
    subst hw''
    go_wp2_with fail
    go_ret
    exact ⟨by rw [HS.out]; simp [*], _, rfl⟩
  repeat (go_big_quiet_step ((go_at_call 75; exact Calls.quiet_of (c_l01Same _ _ _ (by have h := FP.out; unfold Pl.wf at h; simp only [h]) (by have h := FQ.out; unfold Pl.wf at h; simp only [h])))))
  cases qc4 : same .f32 p.m q.m
  case false =>
    repeat (go_big_quiet_step ((go_at_call 75; exact Calls.quiet_of (c_l01Same _ _ _ (by have h := FP.out; unfold Pl.wf at h; simp only [h]) (by have h := FQ.out; unfold Pl.wf at h; simp only [h])))))
    refine wpQuiet_nil ?_
    intro _ hw'
    obtain ⟨nq, hw''⟩ := hw'
    subst hw''
    go_wp2_with fail
    go_ret
    exact ⟨by rw [HS.out]; simp [*], _, rfl⟩
  repeat (go_big_quiet_step ((go_at_call 75; exact Calls.quiet_of (c_l01Same _ _ _ (by have h := FP.out; unfold Pl.wf at h; simp only [h]) (by have h := FQ.out; unfold Pl.wf at h; simp only [h])))))
  cases qc5 : same .f32 p.s q.s
  case false =>
    repeat (go_big_quiet_step ((go_at_call 75; exact Calls.quiet_of (c_l01Same _ _ _ (by have h := FP.out; unfold Pl.wf at h; simp only [h]) (by have h := FQ.out; unfold Pl.wf at h; simp only [h])))))
    refine wpQuiet_nil ?_
    intro _ hw'
    obtain ⟨nq, hw''⟩ := hw'
    subst hw''
    go_wp2_with fail
    go_ret
    exact ⟨by rw [HS.out]; simp [*], _, rfl⟩
  repeat (go_big_quiet_step ((go_at_call 75; exact Calls.quiet_of (c_l01Same _ _ _ (by have h := FP.out; unfold Pl.wf at h; simp only [h]) (by have h := FQ.out; unfold Pl.wf at h; simp only [h])))))
  cases qc6 : same .f32 p.c q.c
  case false =>
    repeat (go_big_quiet_step ((go_at_call 75; exact Calls.quiet_of (c_l01Same _ _ _ (by have h := FP.out; unfold Pl.wf at h; simp only [h]) (by have h := FQ.out; unfold Pl.wf at h; simp only [h])))))
    refine wpQuiet_nil ?_
    intro _ hw'
    obtain ⟨nq, hw''⟩ := hw'
    subst hw''
    go_wp2_with fail
    go_ret
    exact ⟨by rw [HS.out]; simp [*], _, rfl⟩
  repeat (go_big_quiet_step ((go_at_call 75; exact Calls.quiet_of (c_l01Same _ _ _ (by have h := FP.out; unfold Pl.wf at h; simp only [h]) (by have h := FQ.out; unfold Pl.wf at h; simp only [h])))))
  refine wpQuiet_nil ?_
  intro _ hw'
  obtain ⟨nq, hw''⟩ := hw'
  subst hw''
  go_wp2_with fail
  go_ret
  exact ⟨by rw [HS.out]; simp [*], _, rfl⟩

theorem c_specSamePlant (p q : Pl) (w : World) (fp : p.wf) (fq : q.wf) : Calls Try.prog 21 #[.agg #[.float .f32 p.i, .float .f32 p.d, .float .f32 p.r, .float .f32 p.l, .float .f32 p.m, .float .f32 p.s, .float .f32 p.c, .float .f32 p.e], .agg #[.float .f32 q.i, .float .f32 q.d, .float .f32 q.r, .float .f32 q.l, .float .f32 q.m, .float .f32 q.s, .float .f32 q.c, .float .f32 q.e]] w fun e w' => e = .returned (.bool (samePl p q)) ∧ Below w.heap.size w w' := by
  go_enter Try.func21, Try.ntmps21
  go_wp2_with (go_at_call 51; refine (c_l05SamePlant p q _ _ _ _ _ (by unfold PlAt; simp) (by unfold PlAt; simp) fp fq).mono ?_; rintro e w' ⟨rfl, nq, rfl⟩)
  go_ret
  exact ⟨rfl, by (repeat (first | exact Below.refl _ _ | refine below_draws ?_ _ | refine Below.alloc ?_ (by first | omega | (simp; done) | (simp; omega)) _ | refine Below.setCell ?_ (by first | omega | (simp; done) | (simp; omega)) _ | refine below_then (by assumption) (by first | omega | (simp; done) | (simp; omega)) ?_))⟩

theorem walk_SamePlant (p q : Pl) (w : World) (fp : p.wf) (fq : q.wf) : Calls Try.prog 5 #[.agg #[.float .f32 p.i, .float .f32 p.d, .float .f32 p.r, .float .f32 p.l, .float .f32 p.m, .float .f32 p.s, .float .f32 p.c, .float .f32 p.e], .agg #[.float .f32 q.i, .float .f32 q.d, .float .f32 q.r, .float .f32 q.l, .float .f32 q.m, .float .f32 q.s, .float .f32 q.c, .float .f32 q.e]] w fun e w' => e = .returned (.bool true) ∧ Below w.heap.size w w' := by
  go_enter Try.func5, Try.ntmps5
  go_wp2_with fail
  try simp only [List.append_eq, List.cons_append, List.nil_append]
  refine wp_region_grewC (by kernel_rfl) (by kernel_rfl) ?_
  repeat (first | refine wpFree_skip rfl ?_ | (refine wpFree_want rfl (fun K hK => ?_); first | (refine free_fbin grew_draw rfl rfl _ _ _ rfl rfl ?_; intro z hz hzw; go_simp; refine hK _ ?_; clear hK K) | (intro wq hq; obtain ⟨hqc, hqf⟩ := bcell hq; go_simp; first | (refine hK _ ?_; clear hK K) | ((with_reducible refine free_at 19 ?_); refine free_v _ (by kernel_rfl) (fun wr hr => (c_toPlant _ _).mono fun e w'' ⟨he, hw⟩ => ⟨he, grew_trans hr hw⟩) ?_; refine hK _ ?_; clear hK K) | ((with_reducible refine free_at 21 ?_); refine free_v _ (by kernel_rfl) (fun wr hr => (c_specSamePlant p q _ fp fq).mono fun e w'' ⟨he, hw⟩ => ⟨he, grew_trans hr hw⟩) ?_; refine hK _ ?_; clear hK K))))
  refine wpFree_nil ?_
  intro wq hq
  obtain ⟨hqc, hqf⟩ := bcell hq
  have hqs := hq.size
  try simp at hqs
  try (have hz0 : w.heap.size < wq.heap.size := by omega)
  try (have hz1 : w.heap.size + 1 < wq.heap.size := by omega)
  try (have hz2 : w.heap.size + 1 + 1 < wq.heap.size := by omega)
  go_wp2_with fail
  try simp only [List.append_eq, List.cons_append, List.nil_append]
  refine wp_region_grewC (by kernel_rfl) (by kernel_rfl) ?_
  repeat (first | refine wpFree_skip rfl ?_ | (refine wpFree_want rfl (fun K hK => ?_); first | (refine free_fbin grew_draw rfl rfl _ _ _ rfl rfl ?_; intro z hz hzw; go_simp; refine hK _ ?_; clear hK K) | (intro wq hq; obtain ⟨hqc, hqf⟩ := bcell hq; go_simp; first | (refine hK _ ?_; clear hK K) | ((with_reducible refine free_at 19 ?_); refine free_v _ (by kernel_rfl) (fun wr hr => (c_toPlant _ _).mono fun e w'' ⟨he, hw⟩ => ⟨he, grew_trans hr hw⟩) ?_; refine hK _ ?_; clear hK K) | ((with_reducible refine free_at 22 ?_); refine free_v _ (by kernel_rfl) (fun wr hr => (c_implSamePlant p q _).mono fun e w'' ⟨he, hw⟩ => ⟨he, grew_trans hr hw⟩) ?_; refine hK _ ?_; clear hK K))))
  refine wpFree_nil ?_
  intro wq hq
  obtain ⟨hqc, hqf⟩ := bcell hq
  have hqs := hq.size
  try simp at hqs
  try (have hz0 : w.heap.size < wq.heap.size := by omega)
  try (have hz1 : w.heap.size + 1 < wq.heap.size := by omega)
  try (have hz2 : w.heap.size + 1 + 1 < wq.heap.size := by omega)
  go_wp2_with fail
  go_ret
  exact ⟨rfl, by (repeat (first | exact Below.refl _ _ | refine below_draws ?_ _ | refine Below.alloc ?_ (by first | omega | (simp; done) | (simp; omega)) _ | refine Below.setCell ?_ (by first | omega | (simp; done) | (simp; omega)) _ | refine below_then (by assumption) (by first | omega | (simp; done) | (simp; omega)) ?_))⟩
end Go.Proofs.Ytaddjeblcgpnpaa
