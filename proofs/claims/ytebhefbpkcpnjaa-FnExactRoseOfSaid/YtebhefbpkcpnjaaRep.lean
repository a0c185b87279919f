/-
  CONTRACT: slices.Repeat of a row of one number.
-/
import Derived.Laws.CopyOwn
import Derived.Test.YtebhefbpkcpnjaaSum
namespace Go.Proofs.Ytebhefbpkcpnjaa
open Go.RowKit Go.Flt
set_option linter.unusedVariables false
set_option maxRecDepth 100000
set_option linter.unusedSimpArgs false

set_option maxHeartbeats 4000000 in
theorem c_Mul1 (c : Nat) (w : World) (h0 : 1 ≤ c) (h1 : c ≤ 16) :
    Calls Try.prog 89 #[.int .u64 1, .int .u64 c] w fun e w' => e = .returned (.tuple #[.int .u64 0, .int .u64 c]) ∧ ∃ n, w' = w.drewN n := by
  have h : c = 1 ∨ c = 2 ∨ c = 3 ∨ c = 4 ∨ c = 5 ∨ c = 6 ∨ c = 7 ∨ c = 8 ∨ c = 9 ∨ c = 10 ∨ c = 11 ∨ c = 12 ∨ c = 13 ∨ c = 14 ∨ c = 15 ∨ c = 16 := by omega
  clear h0 h1
  have step : ∀ c : Nat, (Calls Try.prog 100 #[.int .u64 1, .int .u64 c] w fun e w' => e = .returned (.tuple #[.int .u64 0, .int .u64 c]) ∧ ∃ n, w' = w.drewN n) →
      Calls Try.prog 89 #[.int .u64 1, .int .u64 c] w fun e w' => e = .returned (.tuple #[.int .u64 0, .int .u64 c]) ∧ ∃ n, w' = w.drewN n := by
    intro c hc
    have HC := Lib.hid hc
    clear hc h
    go_enter Try.func89, Try.ntmps89
    go_wp2_with (go_at_call 100; refine HC.out.mono ?_; rintro e w' ⟨rfl, nq, rfl⟩)
    go_ret2
    exact ⟨rfl, _, rfl⟩
  rcases h with rfl | rfl | rfl | rfl | rfl | rfl | rfl | rfl | rfl | rfl | rfl | rfl | rfl | rfl | rfl | rfl
  all_goals
    refine step _ ?_
    clear step
    go_enter Try.func100, Try.ntmps100
    go_wp2_with fail
    go_ret2
    exact ⟨rfl, 0, rfl⟩

/-- m times x, then zeros. -/
def repL (x c m : Nat) : List Nat := List.replicate m x ++ List.replicate (c - m) 0

theorem repL_len {x c m : Nat} (h : m ≤ c) : (repL x c m).length = c := by simp [repL]; omega

theorem repL_splice {x c m k : Nat} (h : m + k ≤ c) : splice ((repL x c m).map (Value.float .f32)) m ((List.replicate k x).map (Value.float .f32)) = (repL x c (m + k)).map (Value.float .f32) := by
  unfold splice repL
  simp only [List.map_append, List.map_replicate, List.length_replicate]
  rw [List.take_append_of_le_length (by simp), List.take_of_length_le (by simp), List.drop_append, List.drop_eq_nil_of_le (by simp)]
  simp only [List.length_replicate, List.nil_append, List.drop_replicate]
  rw [← List.append_assoc, List.replicate_append_replicate]
  congr 2
  omega

set_option maxHeartbeats 4000000 in
theorem c_Repeat (A : Option Addr) (cap K0 x c : Nat) (w : World) (h : Fl w K0 A 1 [x]) (hK : K0 ≤ w.heap.size) (h0 : 1 ≤ c) (h1 : c ≤ 16) :
    Calls Try.prog 59 #[.slice A 1 cap, .int .i64 c] w fun e w' => ∃ v, e = .returned v ∧ FRow w' w.heap.size w'.heap.size v (List.replicate c x) ∧ Grew w w' := by
  obtain ⟨b, off, rfl, hb, hc⟩ := h.2 (by omega)
  have HX := Lib.hid h
  have hc0 := hc 0 x rfl
  have HM := mk_float32 c (by omega)
  have HMUL := Lib.hid (fun w => c_Mul1 c w h0 h1)
  have d1 : decide ((c : Int) < 0) = false := by simp
  have i1 : IntKind.u64.wrap (c : Int) = (c : Int) := by rw [IntKind.wrap_u64]; omega
  have i2 : IntKind.i64.wrap (c : Int) = (c : Int) := by rw [IntKind.wrap_i64]; omega
  have d2 : decide ((9223372036854775807 : Int) < (c : Int)) = false := by simp; omega
  have H0 := Lib.hid h0
  have H1 := Lib.hid h1
  have HB := Lib.hid (Nat.lt_of_lt_of_le hb hK)
  clear hc h0 h1 h
  go_enter Try.func59, Try.ntmps59
  have HG := Lib.hid (fun nq => (show ((w.drewN nq).alloc (.cells (Array.replicate c (Value.float FloatKind.f32 0)) 23)).heap[w.heap.size]? = some (.cells ((repL x c 0).map (Value.float .f32)).toArray 23 (0, 0)) by simp [repL, heap_push, Array.getElem?_push]))
  have HW := Lib.hid (fun nq => (show Grew w ((w.drewN nq).alloc (.cells (Array.replicate c (Value.float FloatKind.f32 0)) 23)) from grew_al (grew_draw _ nq (grew_refl w)) _))
  have hsz1 : (Try.prog.info? 23).map (·.size) = some 1 := by kernel_rfl
  have HZ := Lib.hid hsz1
  clear hsz1
  go_wp2_with (first | (go_at_call 89; refine (HMUL.out _).mono ?_; rintro e w' ⟨rfl, nq, rfl⟩) | (refine wpList_copy_splice rfl (.tmp 31) (.tmp 32) 22 22 rfl 23 Try.underlying22 HZ.out (some ⟨w.heap.size, 0, none⟩) (some ⟨b, off, none⟩) c c 1 cap rfl rfl w.heap.size 0 ((repL x c 0).map (Value.float .f32)) 23 (HG.out _) [Value.float .f32 x] (by have := H0.out; simp [Nat.min_def]; omega) (fun _ => ⟨rfl, ⟨b, off, none⟩, rfl, fl_cells (xs := [x]) (Slc.grew (g := Value.float .f32) HX.out hK (HW.out _))⟩) (by have := H0.out; simp [repL]; omega) (one_cells [x]) w.heap.size w (HW.out _) (Nat.le_refl _) ?_; intro w2 hcl hbl; have C2 := Lib.hid hcl; have G2 := Lib.hid hbl; clear hcl hbl))
  have hs1 := repL_splice (x := x) (c := c) (m := 0) (k := 1) (by have := H0.out; omega)
  have C3 : Hid (w2.heap[w.heap.size]? = some (.cells ((repL x c 1).map (Value.float .f32)).toArray 23 (0, 0))) := by
    have h := C2.out.out
    rw [show [Value.float FloatKind.f32 x] = (List.replicate 1 x).map (Value.float .f32) from rfl, hs1] at h
    exact h
  clear C2 hs1 HG HW HMUL HM d1 d2 i1 i2
  go_loopw [8] (fun n wr => ∃ m : Nat, 1 ≤ m ∧ m ≤ c ∧ n = .int .i64 m ∧ Hid (wr.heap[w.heap.size]? = some (.cells ((repL x c m).map (Value.float .f32)).toArray 23 (0, 0))) ∧ Hid (Grew w wr)) (fun n _ => c - (intOf n).toNat)
  case atStart => exact ⟨1, Nat.le_refl _, H0.out, rfl, C3, G2⟩
  case round =>
    obtain ⟨m, hm0, hm, rfl, hC, hG⟩ := hrel
    by_cases hlt : m < c
    · have i3 : (0 : Int) ≤ (m : Int) := by omega
      have i4 : (m : Int) < (c : Int) := by omega
      have i5 : (m : Int) ≤ (c : Int) := by omega
      have i6 : ¬ m = c := by omega
      have i7 : ¬ c = m := by omega
      go_wp2_with fail
      try simp only [List.append_eq, List.cons_append, List.nil_append]
      refine wp_region_any (by kernel_rfl) ?_
      refine wpAny_take (i := 0) (v := ?_) rfl (by kernel_rfl) (by kernel_rfl) (by kernel_rfl) (fun _ _ _ h => h) (Or.inl ⟨by rfl, ?_⟩) ?_
      rotate_left
      (intro w; go_simp; with_reducible rfl)
      refine wpAny_tail'' [] [] [1, 2, 3, 4, 5, 6] [7, 8, 9] (by kernel_rfl) (by kernel_rfl) (by kernel_rfl) (by kernel_rfl) (by kernel_rfl) (by kernel_rfl) (by kernel_rfl) (by kernel_rfl) (by simp) (by kernel_rfl) (by kernel_rfl) (by kernel_rfl) ?_
      simp only [picks, List.filterMap_cons, List.filterMap_nil, List.getElem?_cons_zero, List.getElem?_cons_succ]
      try go_simp
      repeat (first | (refine wpG_skip rfl ?_; try go_simp) | (refine wpG_want rfl (fun K hK => ?_); first | (refine gG_fbin rfl rfl _ _ _ rfl rfl rfl ?_; intro z hz hzw; go_simp; refine hK _ ?_; clear hK K) | (intro wq hq hp; obtain ⟨hqc, hqf⟩ := bcell hq; go_simp; first | (refine hK _ ?_; clear hK K; try clear hp; try clear hqc hqf; try clear hq; try clear wq) | fail)))
      refine wpG_nil ?_
      intro wq hq hal hap
      obtain ⟨hqc, hqf⟩ := bcell hq
      have hqs := Below.size hq
      try simp at hqs
      clear hap
      obtain ⟨k, hk, hk1, hk2, hk3⟩ : ∃ k, k = Nat.min m (c - m) ∧ k ≤ m ∧ m + k ≤ c ∧ 1 ≤ k := ⟨_, rfl, Nat.min_le_left _ _, by have := Nat.min_le_right m (c - m); have : Nat.min m (c - m) ≤ c - m := this; omega, by
        rcases Nat.le_total m (c - m) with h | h
        · rw [show Nat.min m (c - m) = m from Nat.min_eq_left h]; omega
        · rw [show Nat.min m (c - m) = c - m from Nat.min_eq_right h]; omega⟩
      have hcells := Lib.hid (fun (j : Nat) (v : Value) (h : ((List.replicate k x).map (Value.float .f32))[j]? = some v) => (show wq.cell? ((⟨w.heap.size, 0, none⟩ : Addr).add j) = some v by
        have hj : j < k := by have := (List.getElem?_eq_some_iff.1 h).1; simpa using this
        simp only [List.map_replicate, List.getElem?_replicate, hj, if_true, Option.some.injEq] at h
        rw [Addr.add_lit]
        have hC' := hC.out
        rw [← hq.block _ (Array.getElem?_eq_some_iff.1 hC').1] at hC'
        rw [cell_of_row wq w.heap.size (0 + j) _ _ _ hC', ← h]
        simp [repL, List.getElem?_append_left, show j < m by omega]))
      refine wpList_copy_splice rfl (.tmp 41) (.tmp 44) 22 22 rfl 23 Try.underlying22 HZ.out (some ⟨w.heap.size, m, none⟩) (some ⟨w.heap.size, 0, none⟩) (c - m) (c - m) m c rfl rfl w.heap.size m ((repL x c m).map (Value.float .f32)) 23 ((hq.block _ (Array.getElem?_eq_some_iff.1 hC.out).1).trans hC.out) ((List.replicate k x).map (Value.float .f32)) (by simp [hk]) (fun _ => ⟨rfl, ⟨w.heap.size, 0, none⟩, rfl, hcells.out⟩) (by simp [repL]; omega) (one_cells _) w.heap.size w (grew_trans hG.out hq) (Nat.le_refl _) ?_
      intro w2 hcl hbl
      have hs2 := repL_splice (x := x) (c := c) (m := m) (k := k) hk2
      rw [hs2] at hcl
      have C4 := Lib.hid hcl.out
      have G4 := Lib.hid hbl
      have hw1 := Lib.hid (show wrap64 ((m : Int) + (k : Int)) = ((m + k : Nat) : Int) by have := H1.out; unfold wrap64; omega)
      clear hcl hbl hs2 hcells hqc hqf hal hq hqs hk
      simp only [Act.put, List.setIfInBounds_toArray, List.set_cons_zero, List.set_cons_succ, List.length_map, List.length_replicate, goInt]
      go_wp2_with fail
      go_roundw
      case rel => exact ⟨m + k, by omega, hk2, by have e := hw1.out; simp [e], C4, G4⟩
      case measure =>
        have e := hw1.out
        rw [e]
        simp only [intOf]
        omega
    · obtain rfl : m = c := by omega
      go_wp2_with fail
      go_ret
      have hrow : FRow wr w.heap.size wr.heap.size (.slice (some ⟨w.heap.size, 0, none⟩) m m) (List.replicate m x) := by
        have hC' := hC.out
        have e : (repL x m m) = List.replicate m x := by simp [repL]
        rw [e] at hC'
        have hl : (List.replicate m x).length = m := by simp
        have h := Own.rowAt (g := Value.float .f32) (t := 23) (w := wr) (lo := w.heap.size) (hi := wr.heap.size) (xs := List.replicate m x) (b := w.heap.size) hC' (Nat.le_refl _) (Array.getElem?_eq_some_iff.1 hC').1 (by simp; have := H1.out; unfold maxLen; omega)
        rw [hl] at h
        exact h
      exact ⟨_, rfl, hrow, hG.out⟩

end Go.Proofs.Ytebhefbpkcpnjaa
