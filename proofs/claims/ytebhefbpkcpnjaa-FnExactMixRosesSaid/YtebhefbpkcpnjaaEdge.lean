/-
  A REGION THAT DRAWS ITS ORDER: ONE MORE EDGE, x COMES BEHIND THE PURE p.
-/
import Derived.Test.YtebhefbpkcpnjaaTail
namespace Go.Flt
open Go

/-- The operation x comes behind p too. -/
def edged (ops : Array Oper) (x p : Nat) : Array Oper := ops.modify x fun o => { o with after := o.after.push { on := p, ground := .data } }

section
variable {P : Program} {ops : Array Oper} {Q : Exit → Act → World → Prop} {md : Region.Mode} {x p : Nat}

theorem edged_at (j : Nat) : (edged ops x p)[j]? = if x = j then (ops[j]?).map (fun o => { o with after := o.after.push { on := p, ground := .data } }) else ops[j]? := by
  unfold edged
  rw [Array.getElem?_modify]

theorem yielded_edged (tmps : Array Value) : yielded (edged ops x p) tmps = yielded ops tmps := by
  funext j
  unfold yielded
  rw [edged_at]
  by_cases h : x = j
  · rw [if_pos h]; cases ops[j]? <;> rfl
  · rw [if_neg h]

theorem wpOp_edged (i : Nat) (K : Act → World → Prop) (a : Act) (w : World) : wpOp P (edged ops x p) Q i K a w = wpOp P ops Q i K a w := by
  unfold wpOp
  rw [edged_at, yielded_edged]
  by_cases h : x = i
  · rw [if_pos h]; cases ops[i]? <;> rfl
  · rw [if_neg h]

theorem ready_edged (hb : Region.binds md { on := p, ground := .data } = true) {listed : Array Bool} {j : Nat} : j ∈ Region.ready md (edged ops x p) listed ↔ j ∈ Region.ready md ops listed ∧ (x = j → listed.getD p false = true) := by
  rw [mem_ready, mem_ready, edged_at]
  by_cases h : x = j
  · subst h
    simp only [if_true, true_implies]
    constructor
    · rintro ⟨h0, o, ho, hall⟩
      cases hx : ops[x]? with
      | none => rw [hx] at ho; cases ho
      | some ox =>
        rw [hx] at ho
        simp only [Option.map_some, Option.some.injEq] at ho
        subst ho
        exact ⟨⟨h0, ox, rfl, fun e he hbe => hall e (Array.mem_push.2 (.inl he)) hbe⟩, hall _ (Array.mem_push.2 (.inr rfl)) hb⟩
    · rintro ⟨⟨h0, o, ho, hall⟩, hl⟩
      rw [ho]
      refine ⟨h0, _, rfl, fun e he hbe => ?_⟩
      rcases Array.mem_push.1 he with he | rfl
      · exact hall e he hbe
      · exact hl
  · simp [h]

theorem pure_extract {i : Nat} {o : Oper} {t : Operand} {k : Nat} (hi : ops[i]? = some o) (ho : o.op = .extract t k) (hg : o.guard = none) {K : Act → World → Prop} {a : Act} {w : World} (h : wpOp P ops Q i K a w) : ∃ v, Yields P ops o v a ∧ K (a.put o.dst v) w := by
  unfold wpOp at h
  simp only [hi] at h
  have hw : Region.wanted o (yielded ops a.tmps) = true := by simp [Region.wanted, hg]
  rw [if_pos hw] at h
  have hex : execOp a.eval o = (do pure (.value (← Instr.extract (a.eval t) k))) := by unfold execOp; simp only [ho]
  cases ht : a.eval t with
  | tuple vs =>
    cases hv : vs[k]? with
    | some v =>
      refine ⟨v, .inl ⟨hw, fun w => by rw [hex, ht]; simp [Instr.extract, hv, go_sem]⟩, ?_⟩
      rcases h with h | ⟨⟨h, _⟩, _⟩
      · unfold Oper.wp at h
        rw [hex, ht] at h
        simpa [Instr.extract, hv, go_sem, Oper.upon] using h
      · rw [hex, ht] at h
        simp [Instr.extract, hv, go_sem] at h
        exact absurd (show noRoomEvent ∈ (#[] : Array Event) from h) (by simp)
    | none =>
      exfalso
      rcases h with h | ⟨⟨h, _⟩, _⟩
      · unfold Oper.wp at h
        rw [hex, ht] at h
        simp [Instr.extract, hv, go_sem, Oper.upon] at h
      · rw [hex, ht] at h
        simp [Instr.extract, hv, go_sem] at h
        exact absurd (show noRoomEvent ∈ (#[] : Array Event) from h) (by simp)
  | _ =>
    exfalso
    rcases h with h | ⟨⟨h, _⟩, _⟩
    · unfold Oper.wp at h
      rw [hex, ht] at h
      simp [Instr.extract, go_sem, Oper.upon] at h
    · rw [hex, ht] at h
      simp [Instr.extract, go_sem] at h
      exact absurd (show noRoomEvent ∈ (#[] : Array Event) from h) (by simp)

/-- What an operation comes behind. -/
def behind (md : Region.Mode) (n : Nat) (o : Oper) : Array Bool := ((List.range n).map fun j => o.after.any fun e => Region.binds md e && e.on == j).toArray

/-- **ONE MORE EDGE.** -/
theorem wpAny_edge {op ox : Oper} {t : Operand} {k : Nat} (hp : ops[p]? = some op) (hx : ops[x]? = some ox) (hxp : x ≠ p) (hb : Region.binds md { on := p, ground := .data } = true) (hs : Region.noSelect ops = true)
    (hf : Region.free md ops (behind md ops.size op) p = true) (hpre : (op.after.all fun e => !Region.binds md e || ox.after.any fun e' => Region.binds md e' && e'.on == e.on) = true)
    (hop : op.op = .extract t k) (hg : op.guard = none) (hQ : ∀ v c a w, Q (.panic c) (a.put op.dst v) w → Q (.panic c) a w) :
    ∀ (fuel : Nat) (listed : Array Bool) (a : Act) (w : World), listed.size = ops.size → wpAny P md (edged ops x p) Q fuel listed a w → wpAny P md ops Q fuel listed a w := by
  have hsoon : ∀ (listed : Array Bool), listed.size = ops.size → x ∈ Region.ready md ops listed → listed.getD p false = false → p ∈ Region.ready md ops listed := fun listed hz hxr hl => by
    obtain ⟨_, ox', hox, hall⟩ := mem_ready.1 hxr
    rw [hx] at hox
    cases hox
    have hlt : p < ops.size := (Array.getElem?_eq_some_iff.1 hp).1
    refine mem_ready.2 ⟨by simp [hz, hlt] at hl ⊢; exact hl, op, hp, fun e he hbe => ?_⟩
    have h1 := Array.all_eq_true_iff_forall_mem.1 hpre e he
    simp only [hbe, Bool.not_true, Bool.false_or] at h1
    obtain ⟨e', he', h2⟩ := Array.any_eq_true'.1 h1
    simp only [Bool.and_eq_true, beq_iff_eq] at h2
    rw [← h2.2]
    exact hall e' he' h2.1
  have hfree : ∀ (listed : Array Bool), p ∈ Region.ready md ops listed → ∀ j oj, ops[j]? = some oj → j ≠ p → listed.getD j true = false → (∀ e ∈ oj.after, Region.binds md e = true → e.on ≠ p) → op.apart ops oj = true := fun listed hpr j oj hj hne hun hno => by
    refine Region.free_spec hp hf j oj hj hne ?_ hno
    have hlt := (Array.getElem?_eq_some_iff.1 hj).1
    have hb' : (behind md ops.size op).getD j true = op.after.any fun e => Region.binds md e && e.on == j := by simp [behind, hlt]
    rw [hb']
    cases hc : op.after.any fun e => Region.binds md e && e.on == j with
    | false => rfl
    | true =>
      exfalso
      obtain ⟨e, he, h2⟩ := Array.any_eq_true'.1 hc
      simp only [Bool.and_eq_true, beq_iff_eq] at h2
      obtain ⟨_, op', hop', hall⟩ := mem_ready.1 hpr
      rw [hp] at hop'
      cases hop'
      have h3 := hall e he h2.1
      rw [h2.2] at h3
      rcases Nat.lt_or_ge j listed.size with h' | h'
      · simp [h'] at h3 hun; rw [h3] at hun; cases hun
      · simp [Array.getElem?_eq_none h'] at h3
  intro fuel
  induction fuel with
  | zero =>
    intro listed a w hz h
    have hno : Region.ready md ops listed = [] := by
      refine List.eq_nil_iff_forall_not_mem.2 fun j hj => ?_
      have hnil : ∀ j, ¬ j ∈ Region.ready md (edged ops x p) listed := fun j h' => by rw [h.1] at h'; cases h'
      by_cases hxj : x = j
      · subst hxj
        cases hl : listed.getD p false with
        | true => exact hnil x ((ready_edged hb).2 ⟨hj, fun _ => hl⟩)
        | false => exact hnil p ((ready_edged hb).2 ⟨hsoon listed hz hj hl, fun e => absurd e hxp⟩)
      · exact hnil j ((ready_edged hb).2 ⟨hj, fun e => absurd e hxj⟩)
    exact ⟨hno, h.2⟩
  | succ fuel ih =>
    intro listed a w hz h
    by_cases hpr : p ∈ Region.ready md ops listed
    · have h1 := h.2 p ((ready_edged hb).2 ⟨hpr, fun e => absurd e hxp⟩)
      rw [wpOp_edged] at h1
      obtain ⟨v, hy, h2⟩ := pure_extract hp hop hg h1
      exact wpAny_first hp (Region.noSelect_spec hs) (hQ v) fuel listed a w (hfree listed hpr) hpr hy (ih _ _ _ (by simp [hz]) h2)
    · have hsame : ∀ j, j ∈ Region.ready md ops listed → j ∈ Region.ready md (edged ops x p) listed := fun j hj =>
        (ready_edged hb).2 ⟨hj, fun e => by
          subst e
          cases hl : listed.getD p false with
          | true => rfl
          | false => exact absurd (hsoon listed hz hj hl) hpr⟩
      refine ⟨fun h0 => h.1 (List.eq_nil_iff_forall_not_mem.2 fun j hj => ?_), fun i hi => ?_⟩
      · have := ((ready_edged hb).1 hj).1
        rw [h0] at this
        cases this
      · have h1 := h.2 i (hsame i hi)
        rw [wpOp_edged] at h1
        exact wpOp_mono (fun a' w' h2 => ih _ _ _ (by simp [hz]) h2) h1
end
end Go.Flt
