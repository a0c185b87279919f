/-
  CONTRACTS: how a law compares two slices of floats; a float32 widened where the order is drawn.
-/
import Derived.Test.YtlakmogclcpgdaaSlMg
import Derived.Test.YtlakmogclcpgdaaGrowMg
namespace Go.Flt
open Go Ieee
section
variable {P : Program} {T : FuncId → Array Value → Value → Prop} {C : World → Prop}
/-- float64(x) in a region that draws its order. -/
theorem free_wid {o : Oper} {a : Act} {K : Act → Prop} {src dst : TypeId} {e : Operand} (hCn : ∀ w n, C w → C (w.drewN n)) (hop : o.op = .convert src dst e) (x : Nat)
    (hx : a.eval e = .float .f32 x) (hs : (P.underlying src).isSome = true) (hd : P.underlying dst = some (.float .f64))
    (h : ∀ z, cl .f64 z = wid (cl .f32 x) → (Lit.float .f64 z).wf = true → K (a.put o.dst (.float .f64 z))) : Free P T C o a K := by
  intro w hw
  obtain ⟨z, n, h1, h2, h3⟩ := run_widen (P := P) w src dst x hs hd
  simp only [execOp, hop, hx, Sem.run_bind, h1, Result.andThen_ok, Sem.run_pure]
  exact ⟨hCn _ _ hw, h z h2 h3⟩
end
section
variable {P : Program} {ops : Array Oper} {D : List Tmp} {F : List (Tmp × (Value → World → World → Prop))} {w0 : World}
theorem gG_wid {o : Oper} {a : Act} {K : Act → Prop} {src dst : TypeId} {e : Operand} (hop : o.op = .convert src dst e) (x : Nat)
    (hx : a.eval e = .float .f32 x) (hs : (P.underlying src).isSome = true) (hd : P.underlying dst = some (.float .f64)) (hu : told F o.dst = none)
    (h : ∀ z, cl .f64 z = wid (cl .f32 x) → (Lit.float .f64 z).wf = true → K (a.put o.dst (.float .f64 z))) : GG P ops D F w0 o a K := by
  intro w hw _
  obtain ⟨z, n, h1, h2, h3⟩ := run_widen (P := P) w src dst x hs hd
  simp only [execOp, hop, hx, Sem.run_bind, h1, Result.andThen_ok, Sem.run_pure]
  exact ⟨grew_draw _ n (grw_refl w), by unfold OfOp; rw [hu]; trivial, h z h2 h3⟩
end
end Go.Flt

namespace Go.Proofs.Ytlakmogclcpgdaa
open Go.RowKit Go.Flt
set_option linter.unusedVariables false
set_option maxRecDepth 100000
set_option linter.unusedSimpArgs false

theorem map_at {xs ys : List Nat} (he : xs.map (cl .f32) = ys.map (cl .f32)) {k : Nat} (h1 : k < xs.length) (h2 : k < ys.length) : cl .f32 xs[k] = cl .f32 ys[k] := by
  have h3 : (xs.map (cl .f32))[k]? = (ys.map (cl .f32))[k]? := by rw [he]
  rw [List.getElem?_map, List.getElem?_map, List.getElem?_eq_getElem h1, List.getElem?_eq_getElem h2] at h3
  exact Option.some.inj h3

set_option maxHeartbeats 1000000 in
theorem c_eqFloat32S (A B : Option Addr) (n m ca cb K : Nat) (xs ys : List Nat) (w : World) (h : Fl w K A n xs) (h' : Fl w K B m ys) (he : xs.map (cl .f32) = ys.map (cl .f32)) (hn : n ≤ 1048576) :
    Calls Try.prog 34 #[.slice A n ca, .slice B m cb] w fun e w' => e = .returned (.bool true) ∧ ∃ n, w' = w.drewN n := by
  obtain rfl := h.1
  obtain rfl := h'.1
  have hl : xs.length = ys.length := by simpa using congrArg List.length he
  have HS := Lib.hid h
  have HT := Lib.hid h'
  have HE := Lib.hid he
  clear h h' he
  have hne : ((xs.length : Int) != (ys.length : Int)) = false := by simp [hl]
  have HL := Lib.hid hl
  clear hl
  go_enter Try.func34, Try.ntmps34
  go_wp2_with fail
  go_loopw [5] (fun i wr => ∃ k : Nat, k ≤ xs.length ∧ i = .int .i64 k ∧ ∃ m, wr = w.drewN m) (fun i _ => xs.length - (intOf i).toNat)
  case atStart => exact ⟨0, Nat.zero_le _, rfl, 0, rfl⟩
  case round =>
    obtain ⟨k, hk, rfl, m, rfl⟩ := hrel
    by_cases hlt : k < xs.length
    · have hlt' : k < ys.length := by have := HL.out; omega
      obtain ⟨b, off, rfl, _, hc⟩ := HS.out.2 (by omega)
      obtain ⟨b', off', rfl, _, hc'⟩ := HT.out.2 (by omega)
      have hc1 := hc k xs[k] (List.getElem?_eq_getElem hlt)
      have hc2 := hc' k ys[k] (List.getElem?_eq_getElem hlt')
      clear hc hc'
      have i3 : (0 : Int) ≤ (k : Int) := by omega
      have i4 : (k : Int) < (xs.length : Int) := by omega
      have i5 : (k : Int) < (ys.length : Int) := by omega
      have i6 : IntKind.i64.wrap (k : Int) = (k : Int) := by rw [IntKind.wrap_i64]; omega
      have hxy := map_at HE.out hlt hlt'
      generalize xs[k] = x at *
      generalize ys[k] = y at *
      go_wp2_with fail
      try simp only [List.append_eq, List.cons_append, List.nil_append]
      refine wp_region_drawnC (by kernel_rfl) (by kernel_rfl) ?_
      repeat (first | (refine wpFree_skip rfl ?_; try go_simp) | (refine wpFree_want rfl (fun K hK => ?_); first | (refine free_fbin drawn_draw rfl rfl _ _ _ rfl rfl ?_; intro z hz hzw; go_simp; refine hK _ ?_; clear hK K) | (refine free_wid drawn_draw rfl _ rfl some_f32 Try.underlying43 ?_; intro z hz hzw; go_simp; refine hK _ ?_; clear hK K) | (intro wq hq; obtain ⟨hqc, hqf, hqh⟩ := drawn_cells hq; go_simp; first | (refine hK _ ?_; clear hK K; try clear hqc hqf; try clear hqh; try clear hq; try clear wq) | ((with_reducible refine free_at 27 ?_); refine free_v _ (by kernel_rfl) (fun wr hr => (c_sameFloat _ _ _ (by simp only [*])).mono fun e w'' ⟨he, hw⟩ => ⟨he, drawn_trans hr hw⟩) ?_; refine hK _ ?_; clear hK K; try clear hqc hqf; try clear hqh; try clear hq; try clear wq))))
      refine wpFree_nil ?_
      intro wq hq
      obtain ⟨nq, rfl⟩ := hq
      go_wp2_with fail
      go_roundw
      case rel => exact ⟨k + 1, by omega, by go_num, by (first | exact ⟨_, rfl⟩ | exact ⟨0, rfl⟩ | exact ⟨_, World.drewN_drewN _ _ _⟩ | (simp only [World.drewN_drewN]; exact ⟨_, rfl⟩))⟩
      case measure => simp [intOf]; omega
    · go_wp2_with fail
      go_ret
      exact ⟨rfl, _, rfl⟩

end Go.Proofs.Ytlakmogclcpgdaa

