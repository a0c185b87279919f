/-
  A REGION THAT DRAWS ITS ORDER, WHOSE OPERATIONS KEEP THE WORLD IN A CLASS, THEIR VALUES LEFT OPEN: ONE WALK OF THE TEXT's ORDER SERVES EVERY ORDER.
-/
import Derived.WalkKit
import Derived.Deep.Draws
import Derived.Still
import Derived.Test.YtlakmogclcpgdaaFlt
namespace Go.Flt
open Go

section
variable {P : Program} {ops : Array Oper} {md : Region.Mode} {T : FuncId → Array Value → Value → Prop} {C : World → Prop}

/-- What an operation has yielded: a value, in a world of the class; or a call whose contract stands in the table. -/
def freeUpon (P : Program) (T : FuncId → Array Value → Value → Prop) (C : World → Prop) (N : Value → Prop) : Result Next → Prop
  | .ok (.value u) w' => C w' ∧ N u
  | .ok .skip w' => C w' ∧ N undef
  | .ok (.enter f args) w' => C w' ∧ (∀ w, C w → Calls P f args w (fun e w'' => ∃ v, e = .returned v ∧ T f args v ∧ C w'')) ∧ ∀ v, T f args v → N v
  | _ => False

def Free (P : Program) (T : FuncId → Array Value → Value → Prop) (C : World → Prop) (o : Oper) (a : Act) (next : Act → Prop) : Prop :=
  ∀ w, C w → freeUpon P T C (fun v => next (a.put o.dst v)) ((execOp a.eval o).run P w)

def wpFree (P : Program) (T : FuncId → Array Value → Value → Prop) (C : World → Prop) (ops : Array Oper) (Q : Act → Prop) : List Oper → Act → Prop
  | [], a => Q a
  | o :: rest, a => if Region.wanted o (yielded ops a.tmps) then Free P T C o a (wpFree P T C ops Q rest) else wpFree P T C ops Q rest (a.put o.dst undef)

theorem wpFree_nil {Q : Act → Prop} {a : Act} (h : Q a) : wpFree P T C ops Q [] a := h
theorem wpFree_want {Q : Act → Prop} {a : Act} {o : Oper} {rest : List Oper} (hw : Region.wanted o (yielded ops a.tmps) = true) (h : ∀ K : Act → Prop, (∀ a, wpFree P T C ops Q rest a → K a) → Free P T C o a K) :
    wpFree P T C ops Q (o :: rest) a := by
  unfold wpFree
  rw [if_pos hw]
  exact h _ fun _ h => h
theorem wpFree_skip {Q : Act → Prop} {a : Act} {o : Oper} {rest : List Oper} (hw : Region.wanted o (yielded ops a.tmps) = false) (h : wpFree P T C ops Q rest (a.put o.dst undef)) : wpFree P T C ops Q (o :: rest) a := by
  unfold wpFree
  rw [if_neg (by rw [hw]; exact Bool.false_ne_true)]
  exact h

/-- A value that the operation may yield. -/
def outcome (T : FuncId → Array Value → Value → Prop) (v : Value) : Result Next → Prop
  | .ok (.value u) _ => v = u
  | .ok .skip _ => v = undef
  | .ok (.enter f args) _ => T f args v
  | _ => False

/-- The operation goes through from this state. -/
def Goes (P : Program) (T : FuncId → Array Value → Value → Prop) (C : World → Prop) (ops : Array Oper) (o : Oper) (a : Act) : Prop :=
  Region.wanted o (yielded ops a.tmps) = true → Free P T C o a (fun _ => True)

def Gives (P : Program) (T : FuncId → Array Value → Value → Prop) (C : World → Prop) (ops : Array Oper) (o : Oper) (a : Act) (v : Value) : Prop :=
  (Region.wanted o (yielded ops a.tmps) = true ∧ ∃ w, C w ∧ outcome T v ((execOp a.eval o).run P w)) ∨ (Region.wanted o (yielded ops a.tmps) = false ∧ v = undef)

def fOp (P : Program) (T : FuncId → Array Value → Value → Prop) (C : World → Prop) (ops : Array Oper) (i : Nat) (K : Act → Prop) (a : Act) : Prop :=
  match ops[i]? with
  | none => K a
  | some o => Goes P T C ops o a ∧ ∀ v, Gives P T C ops o a v → K (a.put o.dst v)

theorem freeUpon_iff {N : Value → Prop} {r : Result Next} : freeUpon P T C N r ↔ freeUpon P T C (fun _ => True) r ∧ ∀ v, outcome T v r → N v := by
  cases r with
  | halt h w => simp [freeUpon]
  | ok n w =>
    cases n <;> simp only [freeUpon, outcome, false_and, iff_self]
    case value u => exact ⟨fun h => ⟨⟨h.1, trivial⟩, fun v e => by rw [e]; exact h.2⟩, fun h => ⟨h.1.1, h.2 _ rfl⟩⟩
    case skip => exact ⟨fun h => ⟨⟨h.1, trivial⟩, fun v e => by rw [e]; exact h.2⟩, fun h => ⟨h.1.1, h.2 _ rfl⟩⟩
    case enter f args => exact ⟨fun h => ⟨⟨h.1, h.2.1, fun _ _ => trivial⟩, h.2.2⟩, fun h => ⟨h.1.1, h.1.2.1, h.2⟩⟩

theorem fOp_of_walk {i : Nat} {o : Oper} {a : Act} {K : Act → Prop} (hi : ops[i]? = some o)
    (h : if Region.wanted o (yielded ops a.tmps) then Free P T C o a K else K (a.put o.dst undef)) : fOp P T C ops i K a := by
  unfold fOp
  simp only [hi]
  by_cases hw : Region.wanted o (yielded ops a.tmps) = true
  · rw [if_pos hw] at h
    refine ⟨fun _ w hc => (freeUpon_iff.1 (h w hc)).1, fun v hv => ?_⟩
    rcases hv with ⟨_, w, hc, hv⟩ | ⟨h0, _⟩
    · exact (freeUpon_iff.1 (h w hc)).2 v hv
    · rw [hw] at h0; cases h0
  · rw [if_neg hw] at h
    refine ⟨fun h0 => absurd h0 hw, fun v hv => ?_⟩
    rcases hv with ⟨h0, _⟩ | ⟨_, rfl⟩
    · exact absurd h0 hw
    · exact h

def wpAnyF (P : Program) (T : FuncId → Array Value → Value → Prop) (C : World → Prop) (md : Region.Mode) (ops : Array Oper) (Q : Act → Prop) : Nat → Array Bool → Act → Prop
  | 0, listed, a => Region.ready md ops listed = [] ∧ Q a
  | fuel + 1, listed, a =>
    (Region.ready md ops listed = [] → Q a) ∧
    ∀ i ∈ Region.ready md ops listed, fOp P T C ops i (wpAnyF P T C md ops Q fuel (listed.setIfInBounds i true)) a

theorem wpOp_of_fOp {i : Nat} {a : Act} {K : Act → Prop} {K' : Act → World → Prop} {Q' : Exit → Act → World → Prop} {w : World} (hC : C w) (h : ∀ a w', C w' → K a → K' a w') (hh : fOp P T C ops i K a) : wpOp P ops Q' i K' a w := by
  unfold fOp at hh
  unfold wpOp
  split
  · rename_i ho; simp only [ho] at hh; exact h _ _ hC hh
  · rename_i o ho
    simp only [ho] at hh
    obtain ⟨h1, h2⟩ := hh
    split
    · rename_i hw
      refine .inl ?_
      have h3 := h1 hw w hC
      have h4 : ∀ v, outcome T v ((execOp a.eval o).run P w) → K (a.put o.dst v) := fun v hv => h2 v (.inl ⟨hw, w, hC, hv⟩)
      unfold Oper.wp
      generalize (execOp a.eval o).run P w = r at *
      cases r with
      | halt x w' => simp only [freeUpon] at h3
      | ok n w' =>
        cases n <;> simp only [freeUpon] at h3 <;> simp only [Oper.upon]
        case value u => exact h _ _ h3.1 (h4 _ rfl)
        case skip => exact h _ _ h3.1 (h4 _ rfl)
        case enter f args => exact (h3.2.1 _ h3.1).mono fun e w'' ⟨v, he, ht, hc⟩ => by subst he; exact h _ _ hc (h4 _ ht)
    · rename_i hw; exact h _ _ hC (h2 _ (.inr ⟨by simpa using hw, rfl⟩))

theorem wpAny_of_free {Q : Act → Prop} {Q' : Exit → Act → World → Prop} (hQ : ∀ a w, C w → Q a → Q' .normal a w) : ∀ (fuel : Nat) (listed : Array Bool) (a : Act) (w : World), C w →
    wpAnyF P T C md ops Q fuel listed a → wpAny P md ops Q' fuel listed a w
  | 0, _, _, _, hw, h => ⟨h.1, hQ _ _ hw h.2⟩
  | fuel + 1, _, _, _, hw, h => ⟨fun h0 => hQ _ _ hw (h.1 h0), fun i hi => wpOp_of_fOp hw (fun a' w' hw' => wpAny_of_free hQ fuel _ a' w' hw') (h.2 i hi)⟩

theorem Goes.put {oi oj : Oper} {a : Act} {v : Value} (hap : oi.apart ops oj = true) (hsj : ∀ cs b, oj.op ≠ .select cs b) : Goes P T C ops oj (a.put oi.dst v) ↔ Goes P T C ops oj a := by
  obtain ⟨h1, h2, h3⟩ := Oper.apart_spec hap
  unfold Goes Free
  rw [wanted_put oj a oi.dst v h1, execOp_put oj hsj a oi.dst v h1]

theorem Gives.put {oi oj : Oper} {a : Act} {v u : Value} (hap : oi.apart ops oj = true) (hsj : ∀ cs b, oj.op ≠ .select cs b) : Gives P T C ops oj (a.put oi.dst v) u ↔ Gives P T C ops oj a u := by
  obtain ⟨h1, h2, h3⟩ := Oper.apart_spec hap
  unfold Gives
  rw [wanted_put oj a oi.dst v h1, execOp_put oj hsj a oi.dst v h1]

theorem Goes.put' {oi oj : Oper} {a : Act} {u : Value} (hap : oi.apart ops oj = true) (hsi : ∀ cs b, oi.op ≠ .select cs b) : Goes P T C ops oi (a.put oj.dst u) ↔ Goes P T C ops oi a := by
  obtain ⟨h1, h2, h3⟩ := Oper.apart_spec hap
  unfold Goes Free
  rw [wanted_put oi a oj.dst u h3, execOp_put oi hsi a oj.dst u h3]

theorem Gives.put' {oi oj : Oper} {a : Act} {u v : Value} (hap : oi.apart ops oj = true) (hsi : ∀ cs b, oi.op ≠ .select cs b) : Gives P T C ops oi (a.put oj.dst u) v ↔ Gives P T C ops oi a v := by
  obtain ⟨h1, h2, h3⟩ := Oper.apart_spec hap
  unfold Gives
  rw [wanted_put oi a oj.dst u h3, execOp_put oi hsi a oj.dst u h3]

theorem wpAnyF_first {Q : Act → Prop} {i : Nat} {oi : Oper} (hi : ops[i]? = some oi) (hsel : ∀ (j : Nat) (o : Oper) cs b, ops[j]? = some o → o.op ≠ .select cs b) :
    ∀ (fuel : Nat) (listed : Array Bool) (a : Act),
      (∀ j oj, ops[j]? = some oj → j ≠ i → listed.getD j true = false → (∀ e ∈ oj.after, Region.binds md e = true → e.on ≠ i) → oi.apart ops oj = true) →
      i ∈ Region.ready md ops listed → Goes P T C ops oi a → (∃ v, Gives P T C ops oi a v) →
      (∀ v, Gives P T C ops oi a v → wpAnyF P T C md ops Q fuel (listed.setIfInBounds i true) (a.put oi.dst v)) → wpAnyF P T C md ops Q (fuel + 1) listed a := by
  intro fuel
  induction fuel with
  | zero =>
    intro listed a _ hr hy ⟨v0, hv0⟩ H
    refine ⟨fun h => (by rw [h] at hr; cases hr), fun j hj => ?_⟩
    by_cases hji : j = i
    · subst hji; unfold fOp; simp only [hi]; exact ⟨hy, H⟩
    · have := ready_mono hj hji
      rw [(H v0 hv0).1] at this
      cases this
  | succ fuel ih =>
    intro listed a hfree hr hy ⟨v0, hv0⟩ H
    refine ⟨fun h => (by rw [h] at hr; cases hr), fun j hj => ?_⟩
    by_cases hji : j = i
    · subst hji; unfold fOp; simp only [hi]; exact ⟨hy, H⟩
    · obtain ⟨hjun, oj, hoj, hall⟩ := mem_ready.1 hj
      have hnot : ∀ e ∈ oj.after, Region.binds md e = true → e.on ≠ i := fun e he hb heq => by
        have h1 := hall e he hb
        have h0 := (mem_ready.1 hr).1
        rw [heq] at h1
        rcases Nat.lt_or_ge i listed.size with h' | h'
        · simp [h'] at h0 h1; rw [h0] at h1; cases h1
        · simp [Array.getElem?_eq_none h'] at h1
      have hap := hfree j oj hoj hji hjun hnot
      have hsi := fun cs b => hsel i oi cs b hi
      have hsj := fun cs b => hsel j oj cs b hoj
      have h1 : ∀ v, Gives P T C ops oi a v → fOp P T C ops j (wpAnyF P T C md ops Q fuel ((listed.setIfInBounds i true).setIfInBounds j true)) (a.put oi.dst v) := fun v hv => (H v hv).2 j (ready_mono hj hji)
      have hfree' : ∀ k ok, ops[k]? = some ok → k ≠ i → (listed.setIfInBounds j true).getD k true = false →
          (∀ e ∈ ok.after, Region.binds md e = true → e.on ≠ i) → oi.apart ops ok = true := fun k ok hk hki hun hno => by
        refine hfree k ok hk hki ?_ hno
        by_cases hjk : j = k
        · subst hjk; exact hjun
        · rw [getD_set_ne true hjk] at hun; exact hun
      unfold fOp at h1 ⊢
      simp only [hoj] at h1 ⊢
      refine ⟨(Goes.put hap hsj).1 (h1 v0 hv0).1, fun u hu => ?_⟩
      refine ih (listed.setIfInBounds j true) (a.put oj.dst u) hfree' (ready_mono hr (Ne.symm hji)) ((Goes.put' hap hsi).2 hy) ⟨v0, (Gives.put' hap hsi).2 hv0⟩ fun v hv => ?_
      have h2 := (h1 v ((Gives.put' hap hsi).1 hv)).2 u ((Gives.put hap hsj).2 hu)
      rw [Array.setIfInBounds_comm _ _ hji]
      rw [Act.put_comm a v u (Oper.apart_spec hap).2.1] at h2
      exact h2

theorem gives_some {o : Oper} {a : Act} (h : Goes P T C ops o a) (hC : ∃ w, C w) : ∃ v, Gives P T C ops o a v := by
  by_cases hw : Region.wanted o (yielded ops a.tmps) = true
  · obtain ⟨w, hc⟩ := hC
    have h1 := h hw w hc
    suffices hh : ∃ v, outcome T v ((execOp a.eval o).run P w) from ⟨hh.choose, .inl ⟨hw, w, hc, hh.choose_spec⟩⟩
    generalize (execOp a.eval o).run P w = r at *
    cases r with
    | halt x w' => simp only [freeUpon] at h1
    | ok n w' =>
      cases n <;> simp only [freeUpon] at h1 <;> simp only [outcome]
      case value u => exact ⟨u, rfl⟩
      case skip => exact ⟨undef, rfl⟩
      case enter f args =>
        obtain ⟨e, w'', fr, ⟨v, _, ht, _⟩, _⟩ := h1.2.1 _ h1.1 []
        exact ⟨v, ht⟩
  · exact ⟨undef, .inr ⟨by simpa using hw, rfl⟩⟩

theorem wpAnyF_lex {Q : Act → Prop} (hs : Region.noSelect ops = true) (hC : ∃ w, C w) : ∀ (l : List Oper) (k : Nat) (listed : Array Bool) (a : Act), (∀ j, l[j]? = ops[k + j]?) →
    Region.lexFrom md ops l.length k listed = true → wpFree P T C ops Q l a → wpAnyF P T C md ops Q l.length listed a
  | [], _, _, _, _, hB, h => ⟨by simpa [Region.lexFrom] using hB, h⟩
  | o :: l, k, listed, a, hl, hB, h => by
    have h0 : ops[k]? = some o := by simpa using (hl 0).symm
    simp only [List.length_cons, Region.lexFrom, Bool.and_eq_true] at hB
    obtain ⟨⟨hr, hf⟩, hB'⟩ := hB
    have hst : fOp P T C ops k (wpFree P T C ops Q l) a := fOp_of_walk h0 h
    unfold fOp at hst
    simp only [h0] at hst
    exact wpAnyF_first h0 (Region.noSelect_spec hs) l.length listed a (Region.free_spec h0 hf) (by simpa using hr) hst.1 (gives_some hst.1 hC) fun v hv =>
      wpAnyF_lex hs hC l (k + 1) _ _ (fun j => by have := hl (j + 1); simpa [Nat.add_assoc, Nat.add_comm 1 j] using this) hB' (hst.2 v hv)

/-- **ONE WALK OF THE TEXT's ORDER SERVES EVERY ORDER, THE VALUES LEFT OPEN.** -/
theorem wp_region_free {id : Nat} {Q : Exit → Act → World → Prop} {a : Act} {w : World} (T : FuncId → Array Value → Value → Prop) (C : World → Prop) (hm : P.follows .mixedOrders = true) (hB : Region.lexB .any ops = true) (hC : C { w with drawn := w.drawn + 1 })
    (h : wpFree P T C ops (fun a' => ∀ w', C w' → Q .normal a' w') ops.toList a) : (Code.region id ops true).wp P Q a w := by
  simp only [Region.lexB, Bool.and_eq_true] at hB
  refine wp_region_any hm (wpAny_of_free (T := T) (Q := fun a' => ∀ w', C w' → Q .normal a' w') (fun _ w' hw' h => h w' hw') _ _ _ _ hC ?_)
  have := wpAnyF_lex (T := T) (C := C) (md := .any) hB.1 ⟨_, hC⟩ ops.toList 0 (Array.replicate ops.size false) a (by simp) (by simpa using hB.2) h
  simpa using this
end

section
variable {P : Program} {T : FuncId → Array Value → Value → Prop}

/-- The class 'w after some draws'. -/
def Drawn (w w' : World) : Prop := ∃ n, w' = w.drewN n
@[go_sem] theorem drawn_of (w : World) (n : Nat) : Drawn w (w.drewN n) = True := by simp only [eq_iff_iff, iff_true]; exact ⟨n, rfl⟩
/-- The class 'nothing that was there has turned'. -/
def Grew (w w' : World) : Prop := RowKit.Below w.heap.size w w'
@[go_sem] theorem grew_drewN (w w' : World) (n : Nat) : Grew w (w'.drewN n) = Grew w w' := by
  simp only [eq_iff_iff]
  exact ⟨fun h => ⟨h.os, h.tape, h.output, h.size, h.block⟩, fun h => ⟨h.os, h.tape, h.output, h.size, h.block⟩⟩
theorem drawn_cells {w w' : World} (h : Drawn w w') : (∀ a, w'.cell? a = w.cell? a) ∧ (∀ a, w'.frozen? a = w.frozen? a) ∧ w'.heap = w.heap := by
  obtain ⟨n, rfl⟩ := h
  exact ⟨fun _ => rfl, fun _ => rfl, rfl⟩
theorem drawn_draw {w : World} : ∀ w' n, Drawn w w' → Drawn w (w'.drewN n) := fun w' n ⟨m, h⟩ => ⟨m + n, by rw [h, World.drewN_drewN]⟩
theorem grew_draw {w : World} : ∀ w' n, Grew w w' → Grew w (w'.drewN n) := fun w' n h => (grew_drewN w w' n).symm ▸ h

theorem wp_region_drawn {id : Nat} {Q : Exit → Act → World → Prop} {a : Act} {w : World} {l : List Oper} (T : FuncId → Array Value → Value → Prop) (hm : P.follows .mixedOrders = true) (hB : Region.lexB .any l.toArray = true)
    (h : wpFree P T (Drawn w) l.toArray (fun a' => ∀ w', Drawn w w' → Q .normal a' w') l a) : (Code.region id l.toArray true).wp P Q a w :=
  wp_region_free T (Drawn w) hm hB ⟨1, rfl⟩ (by simpa using h)

theorem wp_region_grew {id : Nat} {Q : Exit → Act → World → Prop} {a : Act} {w : World} {l : List Oper} (T : FuncId → Array Value → Value → Prop) (hm : P.follows .mixedOrders = true) (hB : Region.lexB .any l.toArray = true)
    (h : wpFree P T (Grew w) l.toArray (fun a' => ∀ w', Grew w w' → Q .normal a' w') l a) : (Code.region id l.toArray true).wp P Q a w :=
  wp_region_free T (Grew w) hm hB ⟨rfl, rfl, rfl, Nat.le_refl _, fun _ _ => rfl⟩ (by simpa using h)

variable {C : World → Prop}

@[go_sem] theorem freeUpon_value (N : Value → Prop) (u : Value) (w : World) : freeUpon P T C N (.ok (.value u) w) = (C w ∧ N u) := rfl
@[go_sem] theorem freeUpon_skip (N : Value → Prop) (w : World) : freeUpon P T C N (.ok .skip w) = (C w ∧ N undef) := rfl
@[go_sem] theorem freeUpon_enter (N : Value → Prop) (f : FuncId) (args : Array Value) (w : World) :
    freeUpon P T C N (.ok (.enter f args) w) = (C w ∧ (∀ w, C w → Calls P f args w (fun e w'' => ∃ v, e = .returned v ∧ T f args v ∧ C w'')) ∧ ∀ v, T f args v → N v) := rfl

/-- + - * / in such a region. -/
theorem free_fbin {o : Oper} {a : Act} {K : Act → Prop} {op : BinOp} {t t' : TypeId} {l r : Operand} (hCn : ∀ w n, C w → C (w.drewN n)) (hop : o.op = .binOp op t l r t') (ho : arith op = true) (k : FloatKind) (x y : Nat)
    (hx : a.eval l = .float k x) (hy : a.eval r = .float k y)
    (h : ∀ z, cl k z = fop op k (cl k x) (cl k y) → (Lit.float k z).wf = true → K (a.put o.dst (.float k z))) : Free P T C o a K := by
  intro w hw
  obtain ⟨z, n, h1, h2, h3⟩ := run_fbin (P := P) w ho t k x y
  simp only [execOp, hop, hx, hy, Sem.run_bind, run_eqGuard ho, Result.andThen_ok, h1, Sem.run_pure]
  exact ⟨hCn _ _ hw, h z h2 h3⟩
end

/-! ### No table of contracts: a call's values are what every contract of a class of alike values says of them -/
inductive NV where
  | f (k : FloatKind) (d : Ieee.Datum) (wf : Bool)
  | o (v : Value)
  | t (l : List NV)
  | a (l : List NV)
def key0 (v : Value) : NV := match v with
  | .float k r => .f k (cl k r) (Lit.float k r).wf
  | v => .o v
def key1 (v : Value) : NV := match v with
  | .tuple vs => .t (vs.toList.map key0)
  | .agg vs => .a (vs.toList.map key0)
  | v => key0 v
def key2 (v : Value) : NV := match v with
  | .tuple vs => .t (vs.toList.map key1)
  | .agg vs => .a (vs.toList.map key1)
  | v => key0 v

theorem key0_f {v : Value} {k : FloatKind} {d : Ieee.Datum} {b : Bool} : key0 v = .f k d b ↔ ∃ r, v = .float k r ∧ cl k r = d ∧ (Lit.float k r).wf = b := by
  constructor
  · intro h
    unfold key0 at h
    split at h
    · injection h with h1 h2 h3
      subst h1
      exact ⟨_, rfl, h2, h3⟩
    · cases h
  · rintro ⟨r, rfl, rfl, rfl⟩
    rfl
theorem key1_f {v : Value} {k : FloatKind} {d : Ieee.Datum} {b : Bool} : key1 v = .f k d b ↔ ∃ r, v = .float k r ∧ cl k r = d ∧ (Lit.float k r).wf = b := by
  constructor
  · intro h
    unfold key1 at h
    split at h
    · cases h
    · cases h
    · exact key0_f.1 h
  · rintro ⟨r, rfl, rfl, rfl⟩
    rfl
theorem key2_f {v : Value} {k : FloatKind} {d : Ieee.Datum} {b : Bool} : key2 v = .f k d b ↔ ∃ r, v = .float k r ∧ cl k r = d ∧ (Lit.float k r).wf = b := by
  constructor
  · intro h
    unfold key2 at h
    split at h
    · cases h
    · cases h
    · exact key0_f.1 h
  · rintro ⟨r, rfl, rfl, rfl⟩
    rfl
/-- Neither a float nor made of parts. -/
def bare : Value → Bool
  | .float .. | .tuple .. | .agg .. => false
  | _ => true
theorem key0_o {v u : Value} (hu : bare u = true) : key0 v = .o u ↔ v = u := by
  constructor
  · intro h
    unfold key0 at h
    split at h
    · cases h
    · injection h
  · rintro rfl
    unfold key0
    split
    · cases hu
    · rfl
theorem key1_o {v u : Value} (hu : bare u = true) : key1 v = .o u ↔ v = u := by
  constructor
  · intro h
    unfold key1 at h
    split at h
    · cases h
    · cases h
    · exact (key0_o hu).1 h
  · rintro rfl
    unfold key1
    split
    · cases hu
    · cases hu
    · exact (key0_o hu).2 rfl
theorem key2_t {v : Value} {l : List NV} : key2 v = .t l ↔ ∃ vs, v = .tuple vs ∧ vs.toList.map key1 = l := by
  constructor
  · intro h
    unfold key2 at h
    split at h
    · injection h with h; exact ⟨_, rfl, h⟩
    · cases h
    · unfold key0 at h; split at h <;> cases h
  · rintro ⟨vs, rfl, rfl⟩
    rfl
theorem key2_a {v : Value} {l : List NV} : key2 v = .a l ↔ ∃ vs, v = .agg vs ∧ vs.toList.map key1 = l := by
  constructor
  · intro h
    unfold key2 at h
    split at h
    · cases h
    · injection h with h; exact ⟨_, rfl, h⟩
    · unfold key0 at h; split at h <;> cases h
  · rintro ⟨vs, rfl, rfl⟩
    rfl
theorem key1_a {v : Value} {l : List NV} : key1 v = .a l ↔ ∃ vs, v = .agg vs ∧ vs.toList.map key0 = l := by
  constructor
  · intro h
    unfold key1 at h
    split at h
    · cases h
    · injection h with h; exact ⟨_, rfl, h⟩
    · unfold key0 at h; split at h <;> cases h
  · rintro ⟨vs, rfl, rfl⟩
    rfl

/-- One value alone, or all values alike to one. -/
def clsV (V : Value → Prop) : Prop := (∃ u, ∀ v, V v ↔ v = u) ∨ ∃ κ, ∀ v, V v ↔ key2 v = κ

section
variable {P : Program} {C : World → Prop} {f : FuncId} {args : Array Value}
def ValidC (P : Program) (C : World → Prop) (f : FuncId) (args : Array Value) (V : Value → Prop) : Prop :=
  P.inits.idxOf? f = none ∧ ∀ w, C w → Calls P f args w fun e w'' => ∃ v, e = .returned v ∧ V v ∧ C w''
def tabC (P : Program) (C : World → Prop) (f : FuncId) (args : Array Value) (v : Value) : Prop := ∀ V, clsV V → ValidC P C f args V → V v

theorem calls_common {w : World} {V V' : Value → Prop} {C' : World → Prop} (hi : P.inits.idxOf? f = none) (h : Calls P f args w fun e w'' => ∃ v, e = .returned v ∧ V v ∧ C w'') (h' : Calls P f args w fun e w'' => ∃ v, e = .returned v ∧ V' v ∧ C' w'') :
    ∃ v, V v ∧ V' v := by
  obtain ⟨e, w1, fr, ⟨v, rfl, hv, _⟩, ⟨n, hn⟩, hf, hl⟩ := h []
  obtain ⟨e', w2, fr', ⟨v', rfl, hv', _⟩, ⟨m, hm⟩, hf', hl'⟩ := h' []
  have d1 := step_leave_done hl (by rw [hf]; exact hi)
  have d2 := step_leave_done hl' (by rw [hf']; exact hi)
  have key : ∀ (a b : Nat) (m0 m1 m2 : Machine) (o o' : Outcome) (wa wb : World), a ≤ b → runN P a m0 = .next m1 → step P m1 = .ended o wa → runN P b m0 = .next m2 → step P m2 = .ended o' wb → o = o' := by
    intro a b m0 m1 m2 o o' wa wb hab h1 s1 h2 s2
    obtain ⟨c, rfl⟩ := Nat.exists_eq_add_of_le hab
    rw [runN_add, h1] at h2
    cases c with
    | zero =>
      simp only [runN, Stepped.next.injEq] at h2
      subst h2
      rw [s1] at s2
      injection s2
    | succ c =>
      simp only [runN, s1] at h2
      cases h2
  have : (Outcome.done v) = .done v' := by
    rcases Nat.le_total n m with hnm | hnm
    · exact key n m _ _ _ _ _ _ _ hnm hn d1 hm d2
    · exact (key m n _ _ _ _ _ _ _ hnm hm d2 hn d1).symm
  injection this with this
  subst this
  exact ⟨v, hv, hv'⟩

theorem tabC_ok {V : Value → Prop} (hcl : clsV V) (hV : ValidC P C f args V) : ∀ w, C w → Calls P f args w fun e w'' => ∃ v, e = .returned v ∧ tabC P C f args v ∧ C w'' := by
  intro w hw
  by_cases hx : ∃ u, ValidC P C f args (· = u)
  · obtain ⟨u, hu⟩ := hx
    refine (hu.2 w hw).mono fun e w'' ⟨v, he, hv, hc⟩ => ⟨v, he, fun V' _ hV' => ?_, hc⟩
    obtain ⟨v', h1, h2⟩ := calls_common hu.1 (hu.2 w hw) (hV'.2 w hw)
    rw [hv, ← h1]
    exact h2
  · have no : ∀ V' : Value → Prop, ValidC P C f args V' → ¬ ∃ u, ∀ v, V' v ↔ v = u := by
      rintro V' hV' ⟨u, hu⟩
      exact hx ⟨u, hV'.1, fun w hw => (hV'.2 w hw).mono fun e w'' ⟨v, he, hv, hc⟩ => ⟨v, he, (hu v).1 hv, hc⟩⟩
    rcases hcl with h | ⟨κ, hκ⟩
    · exact absurd h (no V hV)
    · refine (hV.2 w hw).mono fun e w'' ⟨v, he, hv, hc⟩ => ⟨v, he, fun V' hc' hV' => ?_, hc⟩
      rcases hc' with h | ⟨κ', hκ'⟩
      · exact absurd h (no V' hV')
      · obtain ⟨v', h1, h2⟩ := calls_common hV.1 (hV.2 w hw) (hV'.2 w hw)
        rw [hκ', (hκ v).1 hv, ← (hκ v').1 h1]
        exact (hκ' v').1 h2

/-- A CALL IN A REGION, BY ITS CONTRACT. -/
theorem free_call {K : Value → Prop} (V : Value → Prop) (hcl : clsV V) (hi : P.inits.idxOf? f = none) (hc : ∀ w, C w → Calls P f args w fun e w'' => ∃ v, e = .returned v ∧ V v ∧ C w'') (hk : ∀ v, V v → K v) :
    (∀ w, C w → Calls P f args w fun e w'' => ∃ v, e = .returned v ∧ tabC P C f args v ∧ C w'') ∧ ∀ v, tabC P C f args v → K v :=
  ⟨tabC_ok hcl ⟨hi, hc⟩, fun v hv => hk v (hv V hcl ⟨hi, hc⟩)⟩
end

/-- Some word of a datum. -/
def IsF (d : Ieee.Datum) (v : Value) : Prop := ∃ r, v = .float .f32 r ∧ cl .f32 r = d ∧ (Lit.float .f32 r).wf = true
def IsD (d : Ieee.Datum) (v : Value) : Prop := ∃ r, v = .float .f64 r ∧ cl .f64 r = d ∧ (Lit.float .f64 r).wf = true
def IsFB (d : Ieee.Datum) (b : Bool) (v : Value) : Prop := ∃ r, v = .tuple #[.float .f32 r, .bool b] ∧ cl .f32 r = d ∧ (Lit.float .f32 r).wf = true
theorem cls_val (u : Value) : clsV (· = u) := .inl ⟨u, fun _ => Iff.rfl⟩
theorem cls_flt (d : Ieee.Datum) : clsV (IsF d) := .inr ⟨.f .f32 d true, fun _ => key2_f.symm⟩
theorem cls_dbl (d : Ieee.Datum) : clsV (IsD d) := .inr ⟨.f .f64 d true, fun _ => key2_f.symm⟩
theorem two_of {vs : Array Value} {p q : NV} (h : vs.toList.map key1 = [p, q]) : ∃ x y, vs = #[x, y] ∧ key1 x = p ∧ key1 y = q := by
  obtain ⟨l⟩ := vs
  match l, h with
  | [x, y], h =>
    simp at h
    exact ⟨x, y, rfl, h.1, h.2⟩
theorem cls_fltb (d : Ieee.Datum) (b : Bool) : clsV (IsFB d b) := by
  refine .inr ⟨.t [.f .f32 d true, .o (.bool b)], fun v => ?_⟩
  rw [key2_t]
  constructor
  · rintro ⟨r, rfl, rfl, hw⟩
    refine ⟨_, rfl, ?_⟩
    simp [key1, key0, hw]
  · rintro ⟨vs, rfl, h⟩
    obtain ⟨x, y, rfl, hx, hy⟩ := two_of h
    obtain ⟨r, rfl, h1, h2⟩ := key1_f.1 hx
    obtain rfl := (key1_o rfl).1 hy
    exact ⟨r, rfl, h1, h2⟩

section
variable {P : Program} {C : World → Prop} {f : FuncId} {args : Array Value} {K : Value → Prop}
theorem free_at (f : FuncId) (h : (∀ w, C w → Calls P f args w fun e w'' => ∃ v, e = .returned v ∧ tabC P C f args v ∧ C w'') ∧ ∀ v, tabC P C f args v → K v) :
    (∀ w, C w → Calls P f args w fun e w'' => ∃ v, e = .returned v ∧ tabC P C f args v ∧ C w'') ∧ ∀ v, tabC P C f args v → K v := h
theorem free_v (u : Value) (hi : P.inits.idxOf? f = none) (hc : ∀ w, C w → Calls P f args w fun e w'' => e = .returned u ∧ C w'') (hk : K u) :
    (∀ w, C w → Calls P f args w fun e w'' => ∃ v, e = .returned v ∧ tabC P C f args v ∧ C w'') ∧ ∀ v, tabC P C f args v → K v :=
  free_call (· = u) (cls_val u) hi (fun w hw => (hc w hw).mono fun _ _ ⟨he, h⟩ => ⟨u, he, rfl, h⟩) (fun _ h => h ▸ hk)
theorem free_f (d : Ieee.Datum) (hi : P.inits.idxOf? f = none) (hc : ∀ w, C w → Calls P f args w fun e w'' => ∃ r, e = .returned (.float .f32 r) ∧ cl .f32 r = d ∧ (Lit.float .f32 r).wf = true ∧ C w'') (hk : ∀ r, cl .f32 r = d → (Lit.float .f32 r).wf = true → K (.float .f32 r)) :
    (∀ w, C w → Calls P f args w fun e w'' => ∃ v, e = .returned v ∧ tabC P C f args v ∧ C w'') ∧ ∀ v, tabC P C f args v → K v :=
  free_call (IsF d) (cls_flt d) hi (fun w hw => (hc w hw).mono fun _ _ ⟨r, he, h1, h2, h⟩ => ⟨_, he, ⟨r, rfl, h1, h2⟩, h⟩) (fun _ ⟨r, e, h1, h2⟩ => e ▸ hk r h1 h2)
theorem free_d (d : Ieee.Datum) (hi : P.inits.idxOf? f = none) (hc : ∀ w, C w → Calls P f args w fun e w'' => ∃ r, e = .returned (.float .f64 r) ∧ cl .f64 r = d ∧ (Lit.float .f64 r).wf = true ∧ C w'') (hk : ∀ r, cl .f64 r = d → (Lit.float .f64 r).wf = true → K (.float .f64 r)) :
    (∀ w, C w → Calls P f args w fun e w'' => ∃ v, e = .returned v ∧ tabC P C f args v ∧ C w'') ∧ ∀ v, tabC P C f args v → K v :=
  free_call (IsD d) (cls_dbl d) hi (fun w hw => (hc w hw).mono fun _ _ ⟨r, he, h1, h2, h⟩ => ⟨_, he, ⟨r, rfl, h1, h2⟩, h⟩) (fun _ ⟨r, e, h1, h2⟩ => e ▸ hk r h1 h2)
theorem free_fb (d : Ieee.Datum) (b : Bool) (hi : P.inits.idxOf? f = none) (hc : ∀ w, C w → Calls P f args w fun e w'' => ∃ r, e = .returned (.tuple #[.float .f32 r, .bool b]) ∧ cl .f32 r = d ∧ (Lit.float .f32 r).wf = true ∧ C w'') (hk : ∀ r, cl .f32 r = d → (Lit.float .f32 r).wf = true → K (.tuple #[.float .f32 r, .bool b])) :
    (∀ w, C w → Calls P f args w fun e w'' => ∃ v, e = .returned v ∧ tabC P C f args v ∧ C w'') ∧ ∀ v, tabC P C f args v → K v :=
  free_call (IsFB d b) (cls_fltb d b) hi (fun w hw => (hc w hw).mono fun _ _ ⟨r, he, h1, h2, h⟩ => ⟨_, he, ⟨r, rfl, h1, h2⟩, h⟩) (fun _ ⟨r, e, h1, h2⟩ => e ▸ hk r h1 h2)

theorem wp_region_drawnC {id : Nat} {Q : Exit → Act → World → Prop} {a : Act} {w : World} {l : List Oper} (hm : P.follows .mixedOrders = true) (hB : Region.lexB .any l.toArray = true)
    (h : wpFree P (tabC P (Drawn w)) (Drawn w) l.toArray (fun a' => ∀ w', Drawn w w' → Q .normal a' w') l a) : (Code.region id l.toArray true).wp P Q a w := wp_region_drawn _ hm hB h
theorem wp_region_grewC {id : Nat} {Q : Exit → Act → World → Prop} {a : Act} {w : World} {l : List Oper} (hm : P.follows .mixedOrders = true) (hB : Region.lexB .any l.toArray = true)
    (h : wpFree P (tabC P (Grew w)) (Grew w) l.toArray (fun a' => ∀ w', Grew w w' → Q .normal a' w') l a) : (Code.region id l.toArray true).wp P Q a w := wp_region_grew _ hm hB h
end
end Go.Flt

/-
  PLAIN LAWS OF FLOATS: order, equality, signs, the conversion float32 to float64.
-/
namespace Go.Flt
open Go Ieee

def isNum : Datum → Bool
  | .number .. => true
  | _ => false

theorem order_base (s t : Bool) (m n : Nat) (i j B : Int) (hi : B ≤ i) (hj : B ≤ j) :
    (Datum.number s m i).order (.number t n j) = some (compare (signed s m (i - B).toNat) (signed t n (j - B).toNat)) := by
  unfold Datum.order
  simp only [Option.some.injEq]
  have hsh : ∀ (s : Bool) (m : Nat) (a c : Nat), signed s m (a + c) = signed s m a * ((2 ^ c : Nat) : Int) := by
    intro s m a c
    unfold signed
    cases s <;> simp [Nat.shiftLeft_eq, Int.neg_mul, Int.pow_add, Int.mul_assoc]
  obtain ⟨c, hc⟩ : ∃ c : Nat, min i j - B = c := ⟨(min i j - B).toNat, by omega⟩
  have e1 : (i - B).toNat = (i - min i j).toNat + c := by omega
  have e2 : (j - B).toNat = (j - min i j).toNat + c := by omega
  rw [e1, e2, hsh, hsh]
  have hp : (0 : Int) < ((2 ^ c : Nat) : Int) := by have := Nat.two_pow_pos c; omega
  generalize ((2 ^ c : Nat) : Int) = q at hp
  generalize signed s m _ = a
  generalize signed t n _ = b
  rcases Int.lt_trichotomy a b with h | h | h
  · rw [Int.compare_eq_lt.2 h, Int.compare_eq_lt.2 (Int.mul_lt_mul_of_pos_right h hp)]
  · subst h; simp
  · rw [Int.compare_eq_gt.2 h, Int.compare_eq_gt.2 (Int.mul_lt_mul_of_pos_right h hp)]

/-- A number as so many times 2 to the power of B. -/
def iv (B : Int) : Datum → Int
  | .number s m i => signed s m (i - B).toNat
  | _ => 0
def place (B : Int) : Datum → Prop
  | .number _ _ i => B ≤ i
  | _ => True

theorem cmp_lt (a b : Int) : (some (compare a b) == some Ordering.lt) = decide (a < b) := by
  rcases Int.lt_trichotomy a b with h | h | h
  · rw [Int.compare_eq_lt.2 h]; simp [h]
  · subst h; simp
  · rw [Int.compare_eq_gt.2 h]; simp; omega
theorem cmp_eq (a b : Int) : (some (compare a b) == some Ordering.eq) = decide (a = b) := by
  rcases Int.lt_trichotomy a b with h | h | h
  · rw [Int.compare_eq_lt.2 h]; simp; omega
  · subst h; simp
  · rw [Int.compare_eq_gt.2 h]; simp; omega
theorem flt_num {x y : Datum} (B : Int) (hx : isNum x = true) (hy : isNum y = true) (px : place B x) (py : place B y) : flt x y = decide (iv B x < iv B y) := by
  cases x <;> simp only [isNum] at hx <;> first | (cases hx; done) | skip
  cases y <;> simp only [isNum] at hy <;> first | (cases hy; done) | skip
  unfold flt
  rw [order_base _ _ _ _ _ _ B px py, cmp_lt]
  rfl
theorem feq_num {x y : Datum} (B : Int) (hx : isNum x = true) (hy : isNum y = true) (px : place B x) (py : place B y) : feq x y = decide (iv B x = iv B y) := by
  cases x <;> simp only [isNum] at hx <;> first | (cases hx; done) | skip
  cases y <;> simp only [isNum] at hy <;> first | (cases hy; done) | skip
  unfold feq
  rw [order_base _ _ _ _ _ _ B px py, cmp_eq]
  rfl

/-- A place below those of any three. -/
theorem low_place (x y z : Datum) : ∃ B, place B x ∧ place B y ∧ place B z := by
  have h : ∀ d : Datum, ∃ b : Int, ∀ B, B ≤ b → place B d := fun d => by
    cases d with
    | number s m i => exact ⟨i, fun B h => h⟩
    | infinity s => exact ⟨0, fun _ _ => trivial⟩
    | nan s t => exact ⟨0, fun _ _ => trivial⟩
  obtain ⟨a, ha⟩ := h x
  obtain ⟨b, hb⟩ := h y
  obtain ⟨c, hc⟩ := h z
  exact ⟨min a (min b c), ha _ (by omega), hb _ (by omega), hc _ (by omega)⟩

theorem not_fle {x y : Datum} (hx : isNum x = true) (hy : isNum y = true) : (!(flt x y || feq x y)) = flt y x := by
  obtain ⟨B, h1, h2, _⟩ := low_place x y x
  rw [flt_num B hx hy h1 h2, feq_num B hx hy h1 h2, flt_num B hy hx h2 h1]
  rcases Int.lt_trichotomy (iv B x) (iv B y) with h | h | h
  · simp [h]; omega
  · simp [h]
  · simp [h]; omega
theorem flt_trans_num {x y z : Datum} (hx : isNum x = true) (hy : isNum y = true) (hz : isNum z = true) (h1 : flt x y = true) (h2 : flt y z = true) : flt x z = true := by
  obtain ⟨B, p1, p2, p3⟩ := low_place x y z
  rw [flt_num B hx hy p1 p2] at h1
  rw [flt_num B hy hz p2 p3] at h2
  rw [flt_num B hx hz p1 p3]
  simp at *
  omega
theorem feq_comm (x y : Datum) : feq x y = feq y x := by
  unfold feq
  rw [order_swap x y]
  cases y.order x with
  | none => rfl
  | some o => cases o <;> rfl
theorem feq_self (x : Datum) : feq x x = !x.isNaN := by
  cases x with
  | nan s t => rfl
  | infinity s => cases s <;> rfl
  | number s m e =>
    obtain ⟨B, h1, _, _⟩ := low_place (.number s m e) (.number s m e) (.number s m e)
    rw [feq_num B rfl rfl h1 h1]
    simp [Datum.isNaN]

/-! ### What a word reads as -/
theorem read_neg (f : Format) (b : Nat) : (f.read b).neg = (b / f.signWeight % 2 == 1) := by
  unfold Format.read
  dsimp only
  split
  · rfl
  · split
    · rfl
    · split <;> rfl

theorem word_neg (f : Format) (neg : Bool) {rung : Nat} (h : rung < f.signWeight) : (f.word neg rung / f.signWeight % 2 == 1) = neg := by
  unfold Format.word
  cases neg
  · simp [Nat.div_eq_of_lt h]
  · have h0 : 0 < f.signWeight := by omega
    rw [if_pos rfl, Nat.add_comm, Nat.add_div_right _ h0, Nat.div_eq_of_lt h]
    rfl
theorem write_neg (f : Format) {d : Datum} : (f.read (f.write d)).neg = d.neg := by
  rw [read_neg]
  have hb : 0 < f.binade := Nat.two_pow_pos _
  have hs := f.infRung_lt
  cases d with
  | number neg mag place =>
    unfold Format.write Format.nearest
    dsimp only
    split
    · exact word_neg f neg (by omega)
    · exact word_neg f neg (Nat.lt_of_le_of_lt (Nat.min_le_right _ _) hs)
  | infinity neg => exact word_neg f neg hs
  | nan neg t =>
    unfold Format.write
    refine word_neg f neg ?_
    have := Nat.mod_lt t hb
    have := f.infRung_add_binade
    omega

theorem word_mod (f : Format) (neg : Bool) {rung : Nat} (h : rung < f.signWeight) : f.word neg rung % f.signWeight = rung := by
  unfold Format.word
  cases neg
  · simp [Nat.mod_eq_of_lt h]
  · rw [if_pos rfl, Nat.add_mod_left, Nat.mod_eq_of_lt h]

/-- The word of a rung below infinity reads as a number. -/
theorem read_rung (f : Format) (neg : Bool) {rung : Nat} (h : rung < f.infRung) :
    f.read (f.word neg rung) = if rung < f.binade then .number neg rung f.leastPlace else .number neg (f.binade + rung % f.binade) (f.leastPlace + (rung / f.binade - 1 : Nat)) := by
  have hs := f.infRung_lt
  unfold Format.read
  dsimp only
  rw [word_neg f neg (by omega), word_mod f neg (by omega)]
  split
  · rfl
  · rfl

theorem read_inf (f : Format) (hb : f.binade ≤ f.infRung) (neg : Bool) : f.read (f.word neg f.infRung) = .infinity neg := by
  have hs := f.infRung_lt
  unfold Format.read
  dsimp only
  rw [word_neg f neg (by omega), word_mod f neg (by omega), if_neg (by omega), if_neg (by omega), if_pos rfl]

/-! ### Words in their own form -/
/-- What a number that a word reads as looks like: below a binade at the least place; else a full digit. -/
def tidy (f : Format) : Datum → Prop
  | .number _ m i => (m < f.binade ∧ i = f.leastPlace) ∨ (f.binade ≤ m ∧ m < 2 * f.binade ∧ f.leastPlace ≤ i)
  | _ => True
theorem read_tidy (f : Format) (b : Nat) : tidy f (f.read b) := by
  unfold Format.read
  dsimp only
  split
  · rename_i h; exact .inl ⟨h, rfl⟩
  · split
    · have := Nat.mod_lt (b % f.signWeight) (show 0 < f.binade from Nat.two_pow_pos _)
      exact .inr ⟨by omega, by omega, by omega⟩
    · split <;> trivial
theorem cl_tidy (k : FloatKind) (b : Nat) : tidy k.format (cl k b) := by
  rcases cl_or k b with ⟨s, t, _, h⟩ | ⟨h, _⟩
  · rw [h]; trivial
  · rw [h]; exact read_tidy _ _
theorem tidy_place {f : Format} {d : Datum} (h : tidy f d) : place f.leastPlace d := by
  cases d with
  | number s m i => rcases h with ⟨_, h⟩ | ⟨_, _, h⟩ <;> (show f.leastPlace ≤ i) <;> omega
  | infinity s => trivial
  | nan s t => trivial

/-- Two numbers of that form that are as great and of one sign are one. -/
theorem tidy_eq {f : Format} {x y : Datum} (hx : tidy f x) (hy : tidy f y) (h : feq x y = true) (hn : x.neg = y.neg) : x = y := by
  cases x with
  | nan s t => simp [feq, Datum.order] at h
  | infinity s =>
    cases y with
    | nan t u => simp [feq, Datum.order] at h
    | infinity t => simp only [Datum.neg] at hn; rw [hn]
    | number t n j => cases s <;> simp [feq, Datum.order] at h
  | number s m i =>
    cases y with
    | nan t u => simp [feq, Datum.order] at h
    | infinity t => cases t <;> simp [feq, Datum.order] at h
    | number t n j =>
      simp only [Datum.neg] at hn
      subst hn
      have px := tidy_place hx
      have py := tidy_place hy
      rw [feq_num f.leastPlace rfl rfl px py] at h
      have h := of_decide_eq_true h
      simp only [iv] at h
      have hb : 0 < f.binade := Nat.two_pow_pos _
      have hm : m <<< (i - f.leastPlace).toNat = n <<< (j - f.leastPlace).toNat := by
        unfold signed at h
        cases s <;> simp only [Bool.false_eq_true, if_false, if_true] at h <;> omega
      have key : ∀ (m n a b : Nat), (a < b → f.binade ≤ n) → m < 2 * f.binade → a < b → m <<< a ≠ n <<< b := by
        intro m n a b h1 h2 h3 h4
        have h5 := h1 h3
        rw [Nat.shiftLeft_eq, Nat.shiftLeft_eq] at h4
        obtain ⟨c, rfl⟩ : ∃ c, b = a + 1 + c := ⟨b - a - 1, by omega⟩
        rw [Nat.pow_add, Nat.pow_succ] at h4
        have ha := Nat.two_pow_pos a
        have hc := Nat.two_pow_pos c
        have : m = n * (2 * 2 ^ c) := by
          refine Nat.eq_of_mul_eq_mul_right ha ?_
          rw [h4]
          simp only [Nat.mul_assoc, Nat.mul_comm, Nat.mul_left_comm]
        have h6 : n * 2 ≤ n * (2 * 2 ^ c) := Nat.mul_le_mul_left _ (by omega)
        omega
      have hij : i = j := by
        simp only [tidy] at hx hy
        have px' : f.leastPlace ≤ i := px
        have py' : f.leastPlace ≤ j := py
        rcases Int.lt_trichotomy i j with hlt | heq | hgt
        · exact absurd hm (key m n _ _ (fun _ => by omega) (by omega) (by omega))
        · exact heq
        · exact absurd hm.symm (key n m _ _ (fun _ => by omega) (by omega) (by omega))
      subst hij
      rw [Nat.shiftLeft_eq, Nat.shiftLeft_eq] at hm
      rw [Nat.eq_of_mul_eq_mul_right (Nat.two_pow_pos _) hm]

/-- A word that is no NaN is known by its datum. -/
theorem word_of_read (f : Format) {a b : Nat} (ha : a < 2 ^ f.width) (hb : b < 2 ^ f.width) (h : f.read a = f.read b) (hn : ∀ s t, f.read a ≠ .nan s t) : a = b := by
  have hw : 2 ^ f.width = 2 * f.signWeight := by
    unfold Format.width Format.signWeight
    rw [Nat.add_assoc, Nat.add_comm 1, Nat.pow_succ, Nat.mul_comm]
  rw [hw] at ha hb
  have hneg : (a / f.signWeight % 2 == 1) = (b / f.signWeight % 2 == 1) := by rw [← read_neg, ← read_neg, h]
  have hsw : 0 < f.signWeight := Nat.two_pow_pos _
  have da : a / f.signWeight < 2 := by rw [Nat.div_lt_iff_lt_mul hsw]; omega
  have db : b / f.signWeight < 2 := by rw [Nat.div_lt_iff_lt_mul hsw]; omega
  have hdiv : a / f.signWeight = b / f.signWeight := by
    have h1 : ∀ n, n < 2 → ((n % 2 == 1) = true ↔ n = 1) := fun n hn => by
      have : n = 0 ∨ n = 1 := by omega
      rcases this with rfl | rfl <;> simp
    generalize a / f.signWeight = u at *
    generalize b / f.signWeight = v at *
    by_cases h2 : u = 1
    · have := (h1 _ db).1 (by rw [← hneg]; exact (h1 _ da).2 h2)
      omega
    · by_cases h3 : v = 1
      · have := (h1 _ da).1 (by rw [hneg]; exact (h1 _ db).2 h3)
        omega
      · omega
  have hmod : a % f.signWeight = b % f.signWeight := by
    unfold Format.read at h hn
    dsimp only at h hn
    have hbp : 0 < f.binade := Nat.two_pow_pos _
    generalize a % f.signWeight = p at *
    generalize b % f.signWeight = q at *
    have hp := Nat.div_add_mod p f.binade
    have hq := Nat.div_add_mod q f.binade
    have hpm := Nat.mod_lt p hbp
    have hqm := Nat.mod_lt q hbp
    by_cases p1 : p < f.binade
    · rw [if_pos p1] at h
      by_cases q1 : q < f.binade
      · rw [if_pos q1] at h; injection h
      · rw [if_neg q1] at h
        by_cases q2 : q < f.infRung
        · rw [if_pos q2] at h; injection h; omega
        · rw [if_neg q2] at h
          split at h <;> cases h
    · rw [if_neg p1] at h hn
      by_cases p2 : p < f.infRung
      · rw [if_pos p2] at h
        by_cases q1 : q < f.binade
        · rw [if_pos q1] at h; injection h; omega
        · rw [if_neg q1] at h
          by_cases q2 : q < f.infRung
          · rw [if_pos q2] at h
            injection h with _ h1 h2
            have hp1 : 0 < p / f.binade := Nat.div_pos (by omega) hbp
            have hq1 : 0 < q / f.binade := Nat.div_pos (by omega) hbp
            have : p / f.binade = q / f.binade := by omega
            rw [this] at hp
            omega
          · rw [if_neg q2] at h
            split at h <;> cases h
      · rw [if_neg p2] at h hn
        by_cases p3 : p = f.infRung
        · rw [if_pos p3] at h
          by_cases q1 : q < f.binade
          · rw [if_pos q1] at h; cases h
          · rw [if_neg q1] at h
            by_cases q2 : q < f.infRung
            · rw [if_pos q2] at h; cases h
            · rw [if_neg q2] at h
              by_cases q3 : q = f.infRung
              · omega
              · rw [if_neg q3] at h; cases h
        · rw [if_neg p3] at hn
          exact absurd rfl (hn _ _)
  have h1 := Nat.div_add_mod a f.signWeight
  have h2 := Nat.div_add_mod b f.signWeight
  rw [hdiv, hmod] at h1
  omega

/-- A word, known by its datum: all NaNs alike. -/
def same (k : FloatKind) (a b : Nat) : Bool := decide (cl k a = cl k b)

theorem cl_nan_iff (k : FloatKind) (b : Nat) : cl k b = NaN ↔ (cl k b).isNaN = true := by
  rcases cl_or k b with ⟨s, t, _, h⟩ | ⟨h, h'⟩
  · rw [h]; simp [NaN, Datum.isNaN]
  · rw [h]
    cases hd : k.decode b with
    | nan s t => exact absurd hd (h' s t)
    | number s m e => simp [NaN, Datum.isNaN]
    | infinity s => simp [NaN, Datum.isNaN]

/-- Equal as numbers and of one sign: the same datum; a NaN is equal to nothing. -/
theorem cl_eq_of {k : FloatKind} {a b : Nat} (h : feq (cl k a) (cl k b) = true) (hn : (cl k a).neg = (cl k b).neg) : cl k a = cl k b :=
  tidy_eq (cl_tidy k a) (cl_tidy k b) h hn

/-! ### float64(x) of a float32 -/
def wid (x : Datum) : Datum := match x with
  | .nan _ _ => NaN
  | d => cl .f64 (FloatKind.f64.encode d)

theorem cut_zero (way : Toward) (neg : Bool) (n : Nat) : way.cut neg n 0 = n := by
  unfold Toward.cut
  cases way <;> simp [Nat.mod_one]

theorem double_least : double.leastPlace = -1074 := by decide
theorem single_least : single.leastPlace = -149 := by decide
theorem double_binade : double.binade = 4503599627370496 := by decide
theorem single_binade : single.binade = 8388608 := by decide

theorem wide_read (s : Bool) {m : Nat} {e : Int} (h0 : 0 < m) (hm : m < 16777216) (h1 : -149 ≤ e) (h2 : e ≤ 104) :
    double.read (double.nearest s m e) = .number s (m <<< (52 - m.log2)) (e + m.log2 - 52) := by
  have hL : m.log2 ≤ 23 := by
    have := (Nat.log2_lt (n := m) (k := 24) (by omega)).2 (by omega)
    omega
  have hlo : 2 ^ m.log2 ≤ m := Nat.log2_self_le (by omega)
  have hhi : m < 2 ^ (m.log2 + 1) := Nat.lt_log2_self
  unfold Format.nearest
  dsimp only
  rw [if_neg (by omega)]
  have hfb : ((double.fractionBits : Nat) : Int) = 52 := rfl
  have hlast : max (e + (m.log2 : Int) - (double.fractionBits : Int)) double.leastPlace = e + m.log2 - 52 := by rw [hfb, double_least]; omega
  rw [hlast]
  have e1 : (e - (e + (m.log2 : Int) - 52)).toNat = 52 - m.log2 := by omega
  have e2 : ((e + (m.log2 : Int) - 52) - e).toNat = 0 := by omega
  rw [e1, e2, cut_zero, double_least]
  have hk1 : 4503599627370496 ≤ m <<< (52 - m.log2) := by
    rw [Nat.shiftLeft_eq]
    have : 2 ^ m.log2 * 2 ^ (52 - m.log2) = 4503599627370496 := by rw [← Nat.pow_add, show m.log2 + (52 - m.log2) = 52 by omega]
    rw [← this]
    exact Nat.mul_le_mul_right _ hlo
  have hk2 : m <<< (52 - m.log2) < 9007199254740992 := by
    rw [Nat.shiftLeft_eq]
    have : 2 ^ (m.log2 + 1) * 2 ^ (52 - m.log2) = 9007199254740992 := by rw [← Nat.pow_add, show m.log2 + 1 + (52 - m.log2) = 53 by omega]
    rw [← this]
    exact Nat.mul_lt_mul_of_pos_right hhi (Nat.two_pow_pos _)
  generalize m <<< (52 - m.log2) = k at *
  obtain ⟨q, hq⟩ : ∃ q : Nat, e + (m.log2 : Int) - 52 - (-1074) = q := ⟨(e + (m.log2 : Int) - 52 - (-1074)).toNat, by omega⟩
  rw [hq, Int.toNat_natCast, double_binade, double_inf, Nat.min_eq_left (by omega), read_rung double s (by rw [double_inf]; omega), double_binade, double_least, if_neg (by omega)]
  have a1 : 4503599627370496 + (q * 4503599627370496 + k) % 4503599627370496 = k := by omega
  have a2 : (q * 4503599627370496 + k) / 4503599627370496 - 1 = q := by omega
  rw [a1, a2]
  congr 1
  omega

theorem cl32_bounds (b : Nat) {s : Bool} {m : Nat} {e : Int} (h : cl .f32 b = .number s m e) : m < 16777216 ∧ -149 ≤ e ∧ e ≤ 104 := by
  have ht := cl_tidy .f32 b
  rw [h] at ht
  have hb : (FloatKind.f32).format.binade = 8388608 := single_binade
  have hl : (FloatKind.f32).format.leastPlace = -149 := single_least
  have he : e ≤ 104 := by
    rcases cl_or .f32 b with ⟨s', t', _, h'⟩ | ⟨h', _⟩
    · rw [h'] at h; cases h
    · rw [h] at h'
      have h'' : single.read b = .number s m e := h'.symm
      unfold Format.read at h''
      dsimp only at h''
      rw [single_binade, single_inf, single_least] at h''
      split at h''
      · injection h'' with _ _ h3; omega
      · split at h''
        · injection h'' with _ _ h3; omega
        · split at h'' <;> cases h''
  simp only [tidy, hb, hl] at ht
  omega

theorem wid_num (b : Nat) {s : Bool} {m : Nat} {e : Int} (h : cl .f32 b = .number s m e) :
    wid (cl .f32 b) = if m = 0 then .number s 0 (-1074) else .number s (m <<< (52 - m.log2)) (e + m.log2 - 52) := by
  obtain ⟨h1, h2, h3⟩ := cl32_bounds b h
  rw [h]
  unfold wid
  simp only
  unfold cl FloatKind.decode
  by_cases h0 : m = 0
  · rw [if_pos h0, h0]
    have : FloatKind.f64.encode (.number s 0 e) = double.word s 0 := by
      unfold FloatKind.encode Format.write Format.nearest
      rfl
    rw [this]
    cases s <;> decide
  · rw [if_neg h0]
    have hr := wide_read s (by omega) h1 h2 h3
    have : (FloatKind.f64).format.read (FloatKind.f64.encode (.number s m e)) = .number s (m <<< (52 - m.log2)) (e + m.log2 - 52) := hr
    rw [this]

theorem wid_isNum (b : Nat) (h : isNum (cl .f32 b) = true) : isNum (wid (cl .f32 b)) = true := by
  cases hc : cl .f32 b with
  | number s m e => rw [← hc, wid_num b hc]; split <;> rfl
  | infinity s => rw [hc] at h; cases h
  | nan s t => rw [hc] at h; cases h

/-- The value is kept. -/
theorem wid_iv (b : Nat) : iv (-1074) (wid (cl .f32 b)) = iv (-1074) (cl .f32 b) := by
  cases hc : cl .f32 b with
  | nan s t => rfl
  | infinity s => cases s <;> rfl
  | number s m e =>
    obtain ⟨h1, h2, h3⟩ := cl32_bounds b hc
    rw [← hc, wid_num b hc, hc]
    by_cases h0 : m = 0
    · rw [if_pos h0, h0]
      simp [iv, signed]
    · rw [if_neg h0]
      have hL : m.log2 ≤ 23 := by
        have := (Nat.log2_lt (n := m) (k := 24) (by omega)).2 (by omega)
        omega
      simp only [iv]
      have e1 : (e - (-1074)).toNat = (52 - m.log2) + (e + (m.log2 : Int) - 52 - (-1074)).toNat := by omega
      rw [e1]
      unfold signed
      rw [Nat.shiftLeft_add]

theorem wid_neg (b : Nat) (h : (cl .f32 b).isNaN = false) : (wid (cl .f32 b)).neg = (cl .f32 b).neg := by
  cases hc : cl .f32 b with
  | nan s t => rw [hc] at h; cases h
  | infinity s => cases s <;> decide
  | number s m e => rw [← hc, wid_num b hc, hc]; split <;> rfl

theorem wid_nan (b : Nat) : (wid (cl .f32 b)).isNaN = (cl .f32 b).isNaN := by
  cases hc : cl .f32 b with
  | nan s t => rfl
  | infinity s => cases s <;> decide
  | number s m e => rw [← hc, wid_num b hc, hc]; split <;> rfl

section
variable {P : Program} (w : World)
theorem run_widen (src dst : TypeId) (x : Nat) (hs : (P.underlying src).isSome = true) (hd : P.underlying dst = some (.float .f64)) :
    ∃ z n, (convert src dst (.float .f32 x)).run P w = .ok (.float .f64 z) (w.drewN n) ∧ cl .f64 z = wid (cl .f32 x) ∧ (Lit.float .f64 z).wf = true := by
  obtain ⟨u, hs'⟩ := Option.isSome_iff_exists.1 hs
  have hrun : (convert src dst (.float .f32 x)).run P w = (Conv.floatToFloat .f32 x .f64).run P w := by
    cases u <;> simp [convert, run_underlying hs', run_underlying hd]
  rw [hrun]
  unfold Conv.floatToFloat
  rw [if_neg (by decide)]
  cases hd' : FloatKind.f32.decode x with
  | nan s t =>
    obtain ⟨r, h1, h2, h3⟩ := run_nanConv (P := P) w .f64 x
    refine ⟨r, 1, ?_, ?_, h3⟩
    · simp only [Sem.run_bind, h1, Result.andThen_ok, Sem.run_pure]
    · rw [h2]; unfold cl; rw [hd']; rfl
  | infinity s =>
    refine ⟨_, 0, rfl, ?_, encode_wf .f64 (.infinity s)⟩
    unfold cl; rw [hd']; cases s <;> decide
  | number s m e =>
    have hc : cl .f32 x = .number s m e := by unfold cl; rw [hd']
    have hn := wid_num x hc
    have hw : wid (cl .f32 x) = cl .f64 (FloatKind.f64.encode (.number s m e)) := by rw [hc]; rfl
    refine ⟨FloatKind.f64.encode (.number s m e), 0, ?_, hw.symm, encode_wf .f64 (.number s m e)⟩
    have : (FloatKind.f64.decode (FloatKind.f64.encode (.number s m e))).isInfinity = false := by
      rw [hw] at hn
      rcases cl_or .f64 (FloatKind.f64.encode (.number s m e)) with ⟨s', t', h', h''⟩ | ⟨h', _⟩
      · rw [h']; rfl
      · rw [← h', hn]; split <;> rfl
    simp only [this, Bool.false_eq_true, if_false]
    rfl
end
section
variable {P : Program} {o : Oper} {a : Act} {K : Act → World → Prop} {Q : Exit → Act → World → Prop} {w : World}
theorem upon_widen (src dst : TypeId) (x : Nat) (hs : (P.underlying src).isSome = true) (hd : P.underlying dst = some (.float .f64))
    (h : ∀ z n, cl .f64 z = wid (cl .f32 x) → (Lit.float .f64 z).wf = true → K (a.put o.dst (.float .f64 z)) (w.drewN n)) :
    Oper.upon P o a K Q (((convert src dst (.float .f32 x)).run P w).andThen fun v w' => .ok (.value v) w') := by
  obtain ⟨z, n, h1, h2, h3⟩ := run_widen (P := P) w src dst x hs hd
  rw [h1]
  exact h z n h2 h3
end
end Go.Flt

/-
  PLAIN LAWS OF FLOATS: rounding keeps order.
-/
namespace Go.Flt
open Go Ieee

/-- The nearest whole number, ties to even. -/
def rne (n g : Nat) : Nat := n / g + if g < 2 * (n % g) ∨ (g = 2 * (n % g) ∧ n / g % 2 = 1) then 1 else 0

theorem cut_rne (s : Bool) (n drop : Nat) : Toward.even.cut s n drop = rne n (2 ^ drop) := by
  have hn : n < 2 ^ (n.log2 + 1) := Nat.lt_log2_self
  unfold Toward.cut rne
  simp only [Nat.one_shiftLeft]
  by_cases h : drop ≤ n.log2 + 2
  · rw [Nat.min_eq_left h]
    congr 1
    by_cases h1 : 2 ^ drop < 2 * (n % 2 ^ drop)
    · simp [h1]
    · by_cases h2 : 2 ^ drop = 2 * (n % 2 ^ drop) ∧ n / 2 ^ drop % 2 = 1
      · rw [if_pos (.inr h2)]
        simp [← h2.1, h2.2]
      · rw [if_neg (by rintro (h | h); exact h1 h; exact h2 h)]
        simp only [not_and] at h2
        simp only [decide_eq_false h1, Bool.false_or]
        by_cases h3 : 2 ^ drop = 2 * (n % 2 ^ drop)
        · simp [h2 h3]
        · simp [h3]
  · have h' : n.log2 + 2 ≤ drop := by omega
    rw [Nat.min_eq_right h']
    have e1 : 2 ^ (n.log2 + 2) = 2 * 2 ^ (n.log2 + 1) := by rw [Nat.pow_succ]; omega
    have e2 : 2 ^ (n.log2 + 2) ≤ 2 ^ drop := Nat.pow_le_pow_right (by omega) h'
    generalize 2 ^ (n.log2 + 1) = u at *
    generalize 2 ^ drop = g at *
    rw [e1] at e2 ⊢
    have d1 : n / (2 * u) = 0 := Nat.div_eq_of_lt (by omega)
    have d2 : n / g = 0 := Nat.div_eq_of_lt (by omega)
    have m1 : n % (2 * u) = n := Nat.mod_eq_of_lt (by omega)
    have m2 : n % g = n := Nat.mod_eq_of_lt (by omega)
    rw [d1, d2, m1, m2, if_neg (by omega)]
    have : ¬ (2 * u < 2 * n) := by omega
    have : ¬ (2 * u = 2 * n) := by omega
    simp [*]

theorem rne_mono {n m g : Nat} (_hg : 0 < g) (h : n ≤ m) : rne n g ≤ rne m g := by
  unfold rne
  have h1 := Nat.div_add_mod n g
  have h2 := Nat.div_add_mod m g
  have h3 : n / g ≤ m / g := Nat.div_le_div_right h
  rcases Nat.lt_or_ge (n / g) (m / g) with h4 | h4
  · split <;> split <;> omega
  · have h5 : n / g = m / g := by omega
    rw [h5] at h1 ⊢
    split <;> split <;> omega

theorem rne_scale (n g k : Nat) (hk : 0 < k) : rne (n * k) (g * k) = rne n g := by
  unfold rne
  rw [Nat.mul_div_mul_right _ _ hk, Nat.mul_mod_mul_right]
  have e : ∀ a b : Nat, (a * k < 2 * (b * k)) = (a < 2 * b) := fun a b => by
    rw [← Nat.mul_assoc]
    simp [Nat.mul_lt_mul_right hk]
  have e' : ∀ a b : Nat, (a * k = 2 * (b * k)) = (a = 2 * b) := fun a b => by
    rw [← Nat.mul_assoc]
    simp [Nat.mul_left_inj (Nat.ne_of_gt hk)]
  simp only [e, e']

theorem rne_le {n g t : Nat} (hg : 0 < g) (h : n ≤ g * t) : rne n g ≤ t := by
  have h1 := rne_mono hg h
  have h2 : rne (g * t) g = t := by
    unfold rne
    rw [Nat.mul_mod_right, Nat.mul_div_cancel_left _ hg, if_neg (by omega)]
    rfl
  omega

theorem le_rne {n g t : Nat} (hg : 0 < g) (h : g * t ≤ n) : t ≤ rne n g := by
  have h1 := rne_mono hg h
  have h2 : rne (g * t) g = t := by
    unfold rne
    rw [Nat.mul_mod_right, Nat.mul_div_cancel_left _ hg, if_neg (by omega)]
    rfl
  omega

def lastN (fb l N : Nat) : Nat := max (N.log2 - fb) l

/-- The rung of a number of so many units, l of them below the least place. -/
def rgN (fb l N : Nat) : Nat := (lastN fb l N - l) * 2 ^ fb + rne N (2 ^ lastN fb l N)

theorem log2_mono {n m : Nat} (h0 : 0 < n) (h : n ≤ m) : n.log2 ≤ m.log2 := by
  rw [Nat.le_log2 (by omega)]
  exact Nat.le_trans (Nat.log2_self_le (by omega)) h

theorem rgN_mono {fb l N M : Nat} (h0 : 0 < N) (h : N ≤ M) : rgN fb l N ≤ rgN fb l M := by
  have hl := log2_mono h0 h
  unfold rgN
  have h1 : lastN fb l N ≤ lastN fb l M := by unfold lastN; omega
  have hN : N < 2 ^ (N.log2 + 1) := Nat.lt_log2_self
  have hM : 2 ^ M.log2 ≤ M := Nat.log2_self_le (by omega)
  have hp := Nat.two_pow_pos
  rcases Nat.lt_or_ge (lastN fb l N) (lastN fb l M) with h2 | h2
  · have a1 : rne N (2 ^ lastN fb l N) ≤ 2 * 2 ^ fb := by
      refine rne_le (hp _) ?_
      have : 2 ^ (N.log2 + 1) ≤ 2 ^ (lastN fb l N + (fb + 1)) := Nat.pow_le_pow_right (by omega) (by unfold lastN; omega)
      have e : 2 ^ (lastN fb l N + (fb + 1)) = 2 ^ lastN fb l N * (2 * 2 ^ fb) := by rw [Nat.pow_add 2 _ (fb + 1), Nat.pow_succ 2 fb, Nat.mul_comm (2 ^ fb) 2]
      omega
    have a2 : 2 ^ fb ≤ rne M (2 ^ lastN fb l M) := by
      refine le_rne (hp _) ?_
      rw [← Nat.pow_add]
      refine Nat.le_trans (Nat.pow_le_pow_right (by omega) ?_) hM
      unfold lastN at *
      omega
    have a3 : l ≤ lastN fb l N := by unfold lastN; omega
    obtain ⟨c, hc⟩ : ∃ c, lastN fb l M = lastN fb l N + 1 + c := ⟨lastN fb l M - lastN fb l N - 1, by omega⟩
    rw [hc] at a2 ⊢
    have e1 : lastN fb l N + 1 + c - l = (lastN fb l N - l) + 1 + c := by omega
    rw [e1, Nat.add_mul, Nat.add_mul]
    generalize (lastN fb l N - l) * 2 ^ fb = u
    generalize c * 2 ^ fb = v
    omega
  · have h3 : lastN fb l N = lastN fb l M := by omega
    rw [h3]
    have := rne_mono (hp (lastN fb l M)) h
    omega

theorem log2_shift (m a : Nat) (hm : m ≠ 0) : (m * 2 ^ a).log2 = m.log2 + a := by
  induction a with
  | zero => simp
  | succ a ih =>
    rw [Nat.pow_succ, ← Nat.mul_assoc, Nat.mul_comm _ 2, Nat.log2_two_mul (by have := Nat.two_pow_pos a; exact Nat.mul_ne_zero hm (by omega)), ih]
    omega

theorem nearest_rg (f : Format) (neg : Bool) {mag : Nat} (hm : mag ≠ 0) (p : Int) (B : Int) (h1 : B ≤ p) (h2 : B ≤ f.leastPlace) :
    f.nearest neg mag p = f.word neg (min (rgN f.fractionBits (f.leastPlace - B).toNat (mag * 2 ^ (p - B).toNat)) f.infRung) := by
  unfold Format.nearest
  rw [if_neg hm]
  simp only [cut_rne, Nat.shiftLeft_eq]
  unfold rgN
  have hl : (mag * 2 ^ (p - B).toNat).log2 = mag.log2 + (p - B).toNat := log2_shift _ _ hm
  generalize hL : max (p + (mag.log2 : Int) - f.fractionBits) f.leastPlace = L
  have hLN : lastN f.fractionBits (f.leastPlace - B).toNat (mag * 2 ^ (p - B).toNat) = (L - B).toNat := by
    unfold lastN
    rw [hl]
    omega
  rw [hLN]
  congr 2
  have e1 : (L - B).toNat - (f.leastPlace - B).toNat = (L - f.leastPlace).toNat := by omega
  rw [e1]
  congr 1
  by_cases hc : L ≤ p
  · have : (L - p).toNat = 0 := by omega
    rw [this, ← rne_scale _ _ (2 ^ (L - B).toNat) (Nat.two_pow_pos _), Nat.pow_zero, Nat.one_mul, Nat.mul_assoc, ← Nat.pow_add]
    congr 3
    omega
  · have : (p - L).toNat = 0 := by omega
    rw [this, ← rne_scale _ _ (2 ^ (p - B).toNat) (Nat.two_pow_pos _), Nat.pow_zero, Nat.mul_one, ← Nat.pow_add]
    congr 2
    omega

/-- What a rung stands for, in units of the least place. -/
def vN (f : Format) (r : Nat) : Nat := if r < f.binade then r else (f.binade + r % f.binade) * 2 ^ (r / f.binade - 1)

theorem vN_succ (f : Format) (r : Nat) : vN f r ≤ vN f (r + 1) := by
  have hb : 0 < f.binade := Nat.two_pow_pos _
  have hm := Nat.div_add_mod r f.binade
  have hlt := Nat.mod_lt r hb
  unfold vN
  by_cases h1 : r + 1 < f.binade
  · rw [if_pos (by omega), if_pos h1]; omega
  · rw [if_neg h1]
    by_cases h2 : r < f.binade
    · rw [if_pos h2]
      have e : r + 1 = f.binade := by omega
      rw [e, Nat.mod_self, Nat.div_self hb]
      simp; omega
    · rw [if_neg h2]
      have hq : 0 < r / f.binade := Nat.div_pos (by omega) hb
      by_cases h3 : r % f.binade + 1 < f.binade
      · have e1 : (r + 1) % f.binade = r % f.binade + 1 := by
          rw [Nat.add_mod, Nat.mod_eq_of_lt (a := 1) (by omega), Nat.mod_eq_of_lt h3]
        have e2 : (r + 1) / f.binade = r / f.binade := by
          have : r + 1 = f.binade * (r / f.binade) + (r % f.binade + 1) := by omega
          rw [this, Nat.mul_add_div hb, Nat.div_eq_of_lt h3]
          rfl
        rw [e1, e2]
        exact Nat.mul_le_mul_right _ (by omega)
      · have e0 : r + 1 = f.binade * (r / f.binade + 1) := by rw [Nat.mul_add]; omega
        have e1 : (r + 1) % f.binade = 0 := by rw [e0, Nat.mul_mod_right]
        have e2 : (r + 1) / f.binade = r / f.binade + 1 := by rw [e0, Nat.mul_div_cancel_left _ hb]
        rw [e1, e2]
        obtain ⟨c, hc⟩ : ∃ c, r / f.binade = c + 1 := ⟨r / f.binade - 1, by omega⟩
        rw [hc]
        have e3 : c + 1 + 1 - 1 = c + 1 := by omega
        have e4 : c + 1 - 1 = c := by omega
        rw [e3, e4, Nat.pow_succ, Nat.mul_comm (2 ^ c) 2, ← Nat.mul_assoc]
        exact Nat.mul_le_mul_right _ (by omega)

theorem vN_mono (f : Format) {r q : Nat} (h : r ≤ q) : vN f r ≤ vN f q := by
  induction h with
  | refl => exact Nat.le_refl _
  | step _ ih => exact Nat.le_trans ih (vN_succ f _)

theorem iv_rung (f : Format) (s : Bool) {r : Nat} (h : r < f.infRung) : iv f.leastPlace (f.read (f.word s r)) = if s then -(vN f r : Int) else vN f r := by
  rw [read_rung f s h]
  unfold vN
  split
  · simp [iv, signed]
  · simp only [iv, signed, Nat.shiftLeft_eq]
    have : (f.leastPlace + ((r / f.binade - 1 : Nat) : Int) - f.leastPlace).toNat = r / f.binade - 1 := by omega
    rw [this]

def leF (x y : Datum) : Bool := flt x y || feq x y

theorem leF_num {x y : Datum} (B : Int) (hx : isNum x = true) (hy : isNum y = true) (px : place B x) (py : place B y) : leF x y = decide (iv B x ≤ iv B y) := by
  unfold leF
  rw [flt_num B hx hy px py, feq_num B hx hy px py, ← Bool.decide_or]
  congr 1
  rw [eq_iff_iff]
  omega

/-- The rung of a number, cut at infinity. -/
def rung (f : Format) : Datum → Nat
  | .number _ m p => if m = 0 then 0 else min (rgN f.fractionBits (f.leastPlace - min p f.leastPlace).toNat (m * 2 ^ (p - min p f.leastPlace).toNat)) f.infRung
  | .infinity _ => f.infRung
  | .nan _ _ => f.infRung

theorem write_rung (f : Format) (s : Bool) (m : Nat) (p : Int) : f.write (.number s m p) = f.word s (rung f (.number s m p)) := by
  show f.nearest s m p = f.word s (if m = 0 then 0 else min (rgN f.fractionBits (f.leastPlace - min p f.leastPlace).toNat (m * 2 ^ (p - min p f.leastPlace).toNat)) f.infRung)
  by_cases hm : m = 0
  · rw [if_pos hm]
    unfold Format.nearest
    rw [if_pos hm]
  · rw [nearest_rg f s hm p (min p f.leastPlace) (by omega) (by omega), if_neg hm]

theorem rung_le (f : Format) (d : Datum) : rung f d ≤ f.infRung := by
  unfold rung
  cases d with
  | number s m p => dsimp only; split; omega; exact Nat.min_le_right _ _
  | infinity s => exact Nat.le_refl _
  | nan s t => exact Nat.le_refl _

theorem rung_base (f : Format) (s : Bool) {m : Nat} (hm : m ≠ 0) (p B : Int) (h1 : B ≤ p) (h2 : B ≤ f.leastPlace) :
    rung f (.number s m p) = min (rgN f.fractionBits (f.leastPlace - B).toNat (m * 2 ^ (p - B).toNat)) f.infRung := by
  have e : f.nearest false m p = f.word false (rung f (.number false m p)) := write_rung f false m p
  have e' := nearest_rg f false hm p B h1 h2
  rw [e'] at e
  unfold Format.word at e
  simp only [Bool.false_eq_true, if_false] at e
  exact e.symm

theorem rung_mono (f : Format) {m n : Nat} {p q : Int} (s t : Bool) (B : Int) (h1 : B ≤ p) (h2 : B ≤ q) (h : m * 2 ^ (p - B).toNat ≤ n * 2 ^ (q - B).toNat) : rung f (.number s m p) ≤ rung f (.number t n q) := by
  by_cases hm : m = 0
  · subst hm; simp [rung]
  · have hn : n ≠ 0 := by
      rintro rfl
      have := Nat.two_pow_pos (p - B).toNat
      have : 0 < m * 2 ^ (p - B).toNat := Nat.mul_pos (by omega) this
      omega
    obtain ⟨c, hc⟩ : ∃ c : Nat, B - min B f.leastPlace = c := ⟨(B - min B f.leastPlace).toNat, by omega⟩
    rw [rung_base f s hm p (min B f.leastPlace) (by omega) (by omega), rung_base f t hn q (min B f.leastPlace) (by omega) (by omega)]
    have e1 : (p - min B f.leastPlace).toNat = (p - B).toNat + c := by omega
    have e2 : (q - min B f.leastPlace).toNat = (q - B).toNat + c := by omega
    rw [e1, e2, Nat.pow_add, Nat.pow_add, ← Nat.mul_assoc, ← Nat.mul_assoc]
    have h3 := Nat.mul_le_mul_right (2 ^ c) h
    have h4 := rgN_mono (fb := f.fractionBits) (l := (f.leastPlace - min B f.leastPlace).toNat) (Nat.mul_pos (Nat.mul_pos (by omega) (Nat.two_pow_pos (p - B).toNat)) (Nat.two_pow_pos c)) h3
    omega

def srung (s : Bool) (r : Nat) : Int := if s then -(r : Int) else r

theorem leF_word (f : Format) (hb : f.binade ≤ f.infRung) (s t : Bool) {r q : Nat} (hr : r ≤ f.infRung) (hq : q ≤ f.infRung) (h : srung s r ≤ srung t q) : leF (f.read (f.word s r)) (f.read (f.word t q)) = true := by
  have hbp : 0 < f.binade := Nat.two_pow_pos _
  have num : ∀ (s : Bool) (r : Nat), r < f.infRung → isNum (f.read (f.word s r)) = true := fun s r h => by
    rw [read_rung f s h]; split <;> rfl
  by_cases hr' : r = f.infRung
  · subst hr'
    rw [read_inf f hb]
    by_cases hq' : q = f.infRung
    · subst hq'
      rw [read_inf f hb]
      unfold srung at h
      cases s <;> cases t <;> simp at h ⊢ <;> first | decide | omega
    · have hq2 : q < f.infRung := by omega
      have hn := num t q hq2
      cases s
      · unfold srung at h; cases t <;> simp at h <;> omega
      · cases hd : f.read (f.word t q) with
        | number u m p => rfl
        | infinity u => rw [hd] at hn; cases hn
        | nan u v => rw [hd] at hn; cases hn
  · have hr2 : r < f.infRung := by omega
    by_cases hq' : q = f.infRung
    · subst hq'
      rw [read_inf f hb]
      have hn := num s r hr2
      cases t
      · cases hd : f.read (f.word s r) with
        | number u m p => rfl
        | infinity u => rw [hd] at hn; cases hn
        | nan u v => rw [hd] at hn; cases hn
      · unfold srung at h; cases s <;> simp at h <;> omega
    · have hq2 : q < f.infRung := by omega
      have p1 : place f.leastPlace (f.read (f.word s r)) := tidy_place (read_tidy f _)
      have p2 : place f.leastPlace (f.read (f.word t q)) := tidy_place (read_tidy f _)
      rw [leF_num f.leastPlace (num s r hr2) (num t q hq2) p1 p2, iv_rung f s hr2, iv_rung f t hq2]
      have h0 : vN f 0 = 0 := by unfold vN; rw [if_pos hbp]
      unfold srung at h
      cases s <;> cases t <;> simp only [Bool.false_eq_true, if_true, if_false, decide_eq_true_eq] at h ⊢
      · have := vN_mono f (r := r) (q := q) (by omega); omega
      · have e1 : r = 0 := by omega
        have e2 : q = 0 := by omega
        subst e1 e2
        omega
      · omega
      · have := vN_mono f (r := q) (q := r) (by omega); omega

theorem fmt_inf (k : FloatKind) : k.format.binade ≤ k.format.infRung := by cases k <;> decide

/-- A datum, rounded into a kind. -/
def rd (k : FloatKind) (d : Datum) : Datum := cl k (k.encode d)

theorem rd_num (k : FloatKind) (s : Bool) (m : Nat) (p : Int) : rd k (.number s m p) = k.format.read (k.format.word s (rung k.format (.number s m p))) := by
  have e : k.encode (.number s m p) = k.format.word s (rung k.format (.number s m p)) := write_rung k.format s m p
  unfold rd cl FloatKind.decode
  rw [e]
  have hle := rung_le k.format (.number s m p)
  generalize rung k.format (.number s m p) = r at *
  by_cases hr : r = k.format.infRung
  · subst hr; rw [read_inf _ (fmt_inf k)]
  · rw [read_rung _ s (by omega)]
    by_cases h : r < k.format.binade <;> simp [h]

/-- ROUNDING KEEPS ORDER. -/
theorem rd_mono (k : FloatKind) {x y : Datum} (hx : isNum x = true) (hy : isNum y = true) (h : leF x y = true) : leF (rd k x) (rd k y) = true := by
  cases x <;> simp only [isNum] at hx <;> first | (cases hx; done) | skip
  cases y <;> simp only [isNum] at hy <;> first | (cases hy; done) | skip
  rename_i s m p t n q
  rw [rd_num, rd_num]
  refine leF_word _ (fmt_inf k) s t (rung_le _ _) (rung_le _ _) ?_
  have hB : ∃ B : Int, B ≤ p ∧ B ≤ q := ⟨min p q, by omega, by omega⟩
  obtain ⟨B, b1, b2⟩ := hB
  rw [leF_num (x := .number s m p) (y := .number t n q) B rfl rfl b1 b2] at h
  have h := of_decide_eq_true h
  simp only [iv, signed, Nat.shiftLeft_eq] at h
  have z : ∀ (s : Bool) (m : Nat) (p : Int), m * 2 ^ (p - B).toNat = 0 → rung k.format (.number s m p) = 0 := fun s m p hz => by
    have := Nat.two_pow_pos (p - B).toNat
    rcases Nat.mul_eq_zero.1 hz with rfl | h
    · simp [rung]
    · omega
  unfold srung
  cases s <;> cases t <;> simp only [Bool.false_eq_true, if_true, if_false] at h ⊢
  · have := rung_mono k.format false false B b1 b2 (m := m) (n := n) (by omega); omega
  · rw [z false m p (by omega), z true n q (by omega)]; omega
  · omega
  · have := rung_mono k.format true true B b2 b1 (m := n) (n := m) (by omega); omega

end Go.Flt

/-
  PLAIN LAWS OF FLOATS: words round to themselves; bounds; the floor; an angle without whole turns.
-/
namespace Go.Flt
open Go Ieee

theorem log2_lt {n k : Nat} (h : n < 2 ^ k) (hk : 0 < k) : n.log2 < k := by
  by_cases h0 : n = 0
  · subst h0; simp; omega
  · exact (Nat.log2_lt h0).2 h

theorem rung_read (f : Format) (w : Nat) (s : Bool) (m : Nat) (p : Int) (h : f.read w = .number s m p) (hfb : 0 < f.fractionBits) (hbi : f.binade ≤ f.infRung) :
    ∃ r, r < f.infRung ∧ f.read w = f.read (f.word s r) ∧ rung f (.number s m p) = r := by
  have hb : 0 < f.binade := Nat.two_pow_pos _
  have hbe : f.binade = 2 ^ f.fractionBits := rfl
  refine ⟨w % f.signWeight, ?_⟩
  unfold Format.read at h
  dsimp only at h
  generalize hr : w % f.signWeight = r at *
  by_cases h1 : r < f.binade
  · rw [if_pos h1] at h
    injection h with hs hm hp
    have hri : r < f.infRung := by omega
    refine ⟨hri, ?_, ?_⟩
    · rw [read_rung f s hri, if_pos h1]
      unfold Format.read
      dsimp only
      rw [hr, if_pos h1, hs]
    · subst hm hp
      by_cases h0 : r = 0
      · subst h0; simp [rung]
      · rw [rung_base f s h0 _ f.leastPlace (Int.le_refl _) (Int.le_refl _)]
        have : rgN f.fractionBits (f.leastPlace - f.leastPlace).toNat (r * 2 ^ (f.leastPlace - f.leastPlace).toNat) = r := by
          have hl : r.log2 < f.fractionBits := log2_lt (by rw [← hbe]; exact h1) hfb
          have e0 : (f.leastPlace - f.leastPlace).toNat = 0 := by omega
          rw [e0, Nat.pow_zero, Nat.mul_one]
          unfold rgN lastN
          have e1 : max (r.log2 - f.fractionBits) 0 = 0 := by omega
          rw [e1]
          unfold rne
          simp [Nat.mod_one]
        rw [this]
        omega
  · rw [if_neg h1] at h
    by_cases h2 : r < f.infRung
    · rw [if_pos h2] at h
      injection h with hs hm hp
      refine ⟨h2, ?_, ?_⟩
      · rw [read_rung f s h2, if_neg h1]
        unfold Format.read
        dsimp only
        rw [hr, if_neg h1, if_pos h2, hs]
      · subst hm hp
        have hmod := Nat.mod_lt r hb
        have hdm := Nat.div_add_mod r f.binade
        have hq : 0 < r / f.binade := Nat.div_pos (by omega) hb
        have hm0 : f.binade + r % f.binade ≠ 0 := by omega
        rw [rung_base f s hm0 _ f.leastPlace (by omega) (Int.le_refl _)]
        generalize hc : r / f.binade - 1 = c at *
        have e0 : (f.leastPlace - f.leastPlace).toNat = 0 := by omega
        have e1 : (f.leastPlace + (c : Int) - f.leastPlace).toNat = c := by omega
        have : rgN f.fractionBits (f.leastPlace - f.leastPlace).toNat ((f.binade + r % f.binade) * 2 ^ (f.leastPlace + (c : Int) - f.leastPlace).toNat) = r := by
          rw [e0, e1]
          have hl : (f.binade + r % f.binade).log2 = f.fractionBits := by
            have a1 : (f.binade + r % f.binade).log2 < f.fractionBits + 1 := log2_lt (by rw [Nat.pow_succ, ← hbe]; omega) (by omega)
            have a2 : f.fractionBits ≤ (f.binade + r % f.binade).log2 := (Nat.le_log2 hm0).2 (by rw [← hbe]; omega)
            omega
          unfold rgN lastN
          rw [log2_shift _ _ hm0, hl]
          have e2 : max (f.fractionBits + c - f.fractionBits) 0 = c := by omega
          rw [e2]
          have e3 := rne_scale (f.binade + r % f.binade) 1 (2 ^ c) (Nat.two_pow_pos _)
          rw [Nat.one_mul] at e3
          rw [e3]
          unfold rne
          simp [Nat.mod_one]
          rw [← hbe]
          have : r / f.binade = c + 1 := by omega
          rw [this, Nat.mul_add, Nat.mul_comm] at hdm
          omega
        rw [this]
        omega
    · rw [if_neg h2] at h
      split at h <;> cases h

theorem rd_fix (k : FloatKind) (w : Nat) (h : isNum (cl k w) = true) : rd k (cl k w) = cl k w := by
  rcases cl_or k w with ⟨s, t, _, h'⟩ | ⟨h', _⟩
  · rw [h'] at h; cases h
  · rw [h'] at h ⊢
    cases hd : k.decode w with
    | nan s t => rw [hd] at h; cases h
    | infinity s => rw [hd] at h; cases h
    | number s m p =>
      have hd' : k.format.read w = .number s m p := hd
      obtain ⟨r, h1, h2, h3⟩ := rung_read k.format w s m p hd' (by cases k <;> decide) (fmt_inf k)
      rw [rd_num, h3, ← h2, hd']

/-- A number lies between two: it is one. -/
theorem num_between {x a b : Datum} (ha : isNum a = true) (hb : isNum b = true) (h1 : leF a x = true) (h2 : leF x b = true) : isNum x = true := by
  cases x with
  | number s m p => rfl
  | nan s t => cases a <;> simp [leF, flt, feq, Datum.order] at h1
  | infinity s =>
    cases a <;> simp only [isNum] at ha <;> first | (cases ha; done) | skip
    cases b <;> simp only [isNum] at hb <;> first | (cases hb; done) | skip
    cases s <;> simp [leF, flt, feq, Datum.order] at h1 h2

theorem leF_trans {x y z : Datum} (hx : isNum x = true) (hy : isNum y = true) (hz : isNum z = true) (h1 : leF x y = true) (h2 : leF y z = true) : leF x z = true := by
  obtain ⟨B, p1, p2, p3⟩ := low_place x y z
  rw [leF_num B hx hy p1 p2] at h1
  rw [leF_num B hy hz p2 p3] at h2
  rw [leF_num B hx hz p1 p3]
  simp at *
  omega

/-- What lies between two words is rounded to something between them. -/
theorem rd_between (k : FloatKind) {x : Datum} {a b : Nat} (hx : isNum x = true) (ha : isNum (cl k a) = true) (hb : isNum (cl k b) = true) (h1 : leF (cl k a) x = true) (h2 : leF x (cl k b) = true) :
    isNum (rd k x) = true ∧ leF (cl k a) (rd k x) = true ∧ leF (rd k x) (cl k b) = true := by
  have m1 := rd_mono k ha hx h1
  have m2 := rd_mono k hx hb h2
  rw [rd_fix k a ha] at m1
  rw [rd_fix k b hb] at m2
  exact ⟨num_between ha hb m1 m2, m1, m2⟩

/-! ### Sums, as whole numbers -/
theorem iv_shift (B : Int) (s : Bool) (m : Nat) (i j : Int) (h1 : B ≤ j) (h2 : j ≤ i) : signed s m (i - j).toNat * ((2 ^ (j - B).toNat : Nat) : Int) = signed s m (i - B).toNat := by
  have e : (i - B).toNat = (i - j).toNat + (j - B).toNat := by omega
  unfold signed
  rw [e, Nat.shiftLeft_eq, Nat.shiftLeft_eq, Nat.pow_add, ← Nat.mul_assoc]
  generalize m * 2 ^ (i - j).toNat = a
  generalize 2 ^ (j - B).toNat = c
  cases s <;> simp [Int.neg_mul]

theorem sum_num {x y : Datum} (hx : isNum x = true) (hy : isNum y = true) : ∃ d, x.sum y = some d ∧ isNum d = true ∧ ∀ B, place B x → place B y → place B d ∧ iv B d = iv B x + iv B y := by
  cases x <;> simp only [isNum] at hx <;> first | (cases hx; done) | skip
  cases y <;> simp only [isNum] at hy <;> first | (cases hy; done) | skip
  rename_i s m i t n j
  refine ⟨_, rfl, rfl, fun B h1 h2 => ⟨?_, ?_⟩⟩
  · show B ≤ min i j
    have h1 : B ≤ i := h1
    have h2 : B ≤ j := h2
    omega
  · have h1 : B ≤ i := h1
    have h2 : B ≤ j := h2
    simp only [iv]
    have e1 := iv_shift B s m i (min i j) (by omega) (by omega)
    have e2 := iv_shift B t n j (min i j) (by omega) (by omega)
    rw [← e1, ← e2]
    generalize signed s m (i - min i j).toNat = a
    generalize signed t n (j - min i j).toNat = b
    have e3 : ∀ (c : Int) (q : Bool) (k : Nat), (c = 0 ∨ q = decide (c < 0)) → signed q c.natAbs k = c * ((2 ^ k : Nat) : Int) := by
      intro c q k hq
      unfold signed
      rw [Nat.shiftLeft_eq]
      rcases hq with rfl | rfl
      · simp
      · by_cases hc : c < 0
        · rw [decide_eq_true hc, if_pos rfl]
          obtain ⟨d, rfl⟩ : ∃ d : Nat, c = -(d : Int) := ⟨c.natAbs, by omega⟩
          simp [Int.neg_mul]
        · rw [decide_eq_false hc]
          obtain ⟨d, rfl⟩ : ∃ d : Nat, c = (d : Int) := ⟨c.natAbs, by omega⟩
          simp
    rw [e3 (a + b) _ _ (by
      by_cases h0 : a + b = 0
      · exact .inl h0
      · right; rw [if_neg h0]), Int.add_mul]

theorem fop_add {k : FloatKind} {x y : Datum} (hx : isNum x = true) (hy : isNum y = true) : ∃ d, fop .add k x y = rd k d ∧ isNum d = true ∧ ∀ B, place B x → place B y → place B d ∧ iv B d = iv B x + iv B y := by
  obtain ⟨d, h1, h2, h3⟩ := sum_num hx hy
  exact ⟨d, by simp only [fop, h1]; rfl, h2, h3⟩

theorem opp_num {y : Datum} (hy : isNum y = true) : isNum y.opposite = true ∧ ∀ B, place B y → place B y.opposite ∧ iv B y.opposite = -iv B y := by
  cases y <;> simp only [isNum] at hy <;> first | (cases hy; done) | skip
  refine ⟨rfl, fun B h => ⟨h, ?_⟩⟩
  rename_i s m i
  simp only [Datum.opposite, iv, signed]
  cases s <;> simp

theorem fop_sub {k : FloatKind} {x y : Datum} (hx : isNum x = true) (hy : isNum y = true) : ∃ d, fop .sub k x y = rd k d ∧ isNum d = true ∧ ∀ B, place B x → place B y → place B d ∧ iv B d = iv B x - iv B y := by
  obtain ⟨o1, o2⟩ := opp_num hy
  obtain ⟨d, h1, h2, h3⟩ := sum_num hx o1
  refine ⟨d, by simp only [fop, h1]; rfl, h2, fun B p1 p2 => ?_⟩
  obtain ⟨q1, q2⟩ := o2 B p2
  obtain ⟨r1, r2⟩ := h3 B p1 q1
  exact ⟨r1, by rw [r2, q2]; omega⟩

/-- Two to the power of k, not reckoned out. -/
def tw (k : Nat) : Nat := 2 ^ k

theorem tw_pos (k : Nat) : 0 < tw k := Nat.two_pow_pos k

theorem tw_succ (k : Nat) : tw (k + 1) = 2 * tw k := by unfold tw; rw [Nat.pow_succ, Nat.mul_comm]

theorem tw_add (a b : Nat) : tw (a + b) = tw a * tw b := Nat.pow_add 2 a b

theorem tw_le {a b : Nat} (h : a ≤ b) : tw a ≤ tw b := Nat.pow_le_pow_right (by omega) h

theorem tw_eq (k : Nat) : 2 ^ k = tw k := rfl

/-! ### The floor -/
theorem cut_down (s : Bool) (n drop : Nat) : (s = false → Toward.down.cut s n drop * 2 ^ drop ≤ n ∧ n < (Toward.down.cut s n drop + 1) * 2 ^ drop) ∧
    (s = true → n ≤ Toward.down.cut s n drop * 2 ^ drop ∧ Toward.down.cut s n drop * 2 ^ drop < n + 2 ^ drop) := by
  have hn : n < 2 ^ (n.log2 + 1) := Nat.lt_log2_self
  have hg : 0 < 2 ^ drop := Nat.two_pow_pos _
  unfold Toward.cut
  simp only [Nat.one_shiftLeft]
  by_cases h : drop ≤ n.log2 + 2
  · rw [Nat.min_eq_left h]
    have h1 := Nat.div_add_mod n (2 ^ drop)
    have h2 := Nat.mod_lt n hg
    rw [Nat.mul_comm] at h1
    constructor
    · rintro rfl
      simp only [Bool.false_and, Bool.toNat_false, Nat.add_zero, Nat.add_mul, Nat.one_mul]
      omega
    · rintro rfl
      by_cases h3 : n % 2 ^ drop = 0
      · simp only [h3, bne_self_eq_false, Bool.and_false, Bool.toNat_false, Nat.add_zero]
        omega
      · have : (n % 2 ^ drop != 0) = true := by simp [h3]
        simp only [this, Bool.and_true, Bool.toNat_true, Nat.add_mul, Nat.one_mul]
        omega
  · have h' : n.log2 + 2 ≤ drop := by omega
    rw [Nat.min_eq_right h']
    have e1 : 2 ^ (n.log2 + 2) = 2 * 2 ^ (n.log2 + 1) := by rw [Nat.pow_succ]; omega
    have e2 : 2 ^ (n.log2 + 2) ≤ 2 ^ drop := Nat.pow_le_pow_right (by omega) h'
    generalize 2 ^ (n.log2 + 1) = u at *
    generalize 2 ^ drop = g at *
    rw [e1] at e2 ⊢
    have d1 : n / (2 * u) = 0 := Nat.div_eq_of_lt (by omega)
    have m1 : n % (2 * u) = n := Nat.mod_eq_of_lt (by omega)
    rw [d1, m1]
    constructor
    · rintro rfl
      simp only [Bool.false_and, Bool.toNat_false, Nat.add_zero, Nat.zero_mul, Nat.zero_add, Nat.one_mul]
      omega
    · rintro rfl
      by_cases h3 : n = 0
      · subst h3; simp; omega
      · have : (n != 0) = true := by simp [h3]
        simp only [this, Bool.and_true, Bool.toNat_true, Nat.zero_add, Nat.one_mul]
        omega

/-- The floor of a number: at most it, and more than one less. -/
theorem floor_num {x : Datum} (hx : isNum x = true) : isNum (x.integral .down) = true ∧ ∀ B, B ≤ 0 → place B x → place B (x.integral .down) ∧ iv B (x.integral .down) ≤ iv B x ∧ iv B x < iv B (x.integral .down) + ((tw (-B).toNat : Nat) : Int) := by
  unfold tw
  cases x <;> simp only [isNum] at hx <;> first | (cases hx; done) | skip
  rename_i s m i
  refine ⟨rfl, fun B hB hp => ⟨hB, ?_⟩⟩
  have hp : B ≤ i := hp
  simp only [Datum.integral, iv, signed, Nat.shiftLeft_eq]
  have hc := cut_down s (m * 2 ^ i.toNat) (-i).toNat
  generalize hq : Toward.down.cut s (m * 2 ^ i.toNat) (-i).toNat = q at *
  have e0 : (0 - B).toNat = (-B).toNat := by omega
  rw [e0]
  by_cases hi : 0 ≤ i
  · have e1 : (-i).toNat = 0 := by omega
    rw [e1] at hc
    have e2 : (i - B).toNat = i.toNat + (-B).toNat := by omega
    rw [e2, Nat.pow_add, ← Nat.mul_assoc]
    generalize m * 2 ^ i.toNat = a at *
    have hqa : q = a := by cases s <;> simp at hc <;> omega
    subst hqa
    have := Nat.two_pow_pos (-B).toNat
    generalize 2 ^ (-B).toNat = c at *
    cases s <;> simp <;> omega
  · have e1 : i.toNat = 0 := by omega
    rw [e1, Nat.pow_zero, Nat.mul_one] at hc
    have e2 : (-B).toNat = (-i).toNat + (i - B).toNat := by omega
    rw [e2, Nat.pow_add, ← Nat.mul_assoc]
    have h0 := Nat.two_pow_pos (i - B).toNat
    generalize 2 ^ (i - B).toNat = c at *
    generalize 2 ^ (-i).toNat = g at *
    cases s
    · obtain ⟨c1, c2⟩ := hc.1 rfl
      have k1 := Nat.mul_le_mul_right c c1
      have k2 := Nat.mul_lt_mul_of_pos_right c2 h0
      rw [Nat.add_mul, Nat.one_mul, Nat.add_mul] at k2
      simp only [Bool.false_eq_true, if_false]
      omega
    · obtain ⟨c1, c2⟩ := hc.2 rfl
      have k1 := Nat.mul_le_mul_right c c1
      have k2 := Nat.mul_lt_mul_of_pos_right c2 h0
      rw [Nat.add_mul] at k2
      simp only [if_true]
      omega

/-! ### A number narrowed; an angle without whole turns -/
/-- float32(x) of a float64, where it is no number too great. -/
def nar (x : Datum) : Datum := match x with
  | .nan _ _ => NaN
  | d => cl .f32 (FloatKind.f32.encode d)

theorem nar_rd {x : Datum} (h : isNum x = true) : nar x = rd .f32 x := by
  cases x <;> simp only [isNum] at h <;> first | (cases h; done) | skip
  rfl

theorem wid_fix (b : Nat) (h : isNum (cl .f32 b) = true) : ∃ w, wid (cl .f32 b) = cl .f64 w := by
  cases hc : cl .f32 b <;> rw [hc] at h <;> simp only [isNum] at h <;> first | (cases h; done) | skip
  exact ⟨_, rfl⟩

theorem place64 (w : Nat) : place (-1074) (cl .f64 w) := tidy_place (cl_tidy .f64 w)

theorem place32 (w : Nat) : place (-1074) (cl .f32 w) := by
  have h := tidy_place (cl_tidy .f32 w)
  cases hc : cl .f32 w with
  | number s m i => rw [hc] at h; have h : (-149 : Int) ≤ i := h; show (-1074 : Int) ≤ i; omega
  | infinity s => trivial
  | nan s t => trivial

theorem leF_iv {x y : Datum} (hx : isNum x = true) (hy : isNum y = true) (px : place (-1074) x) (py : place (-1074) y) : leF x y = true ↔ iv (-1074) x ≤ iv (-1074) y := by
  rw [leF_num (-1074) hx hy px py, decide_eq_true_eq]

theorem iv_of (s : Bool) (m : Nat) (i : Int) (k : Nat) (h : i + 1074 = k) : iv (-1074) (.number s m i) = if s then -((m * tw k : Nat) : Int) else ((m * tw k : Nat) : Int) := by
  have e : (i - -1074).toNat = k := by omega
  simp only [iv, signed, Nat.shiftLeft_eq, e, tw_eq]

theorem wid_bound (b : Nat) (h : isNum (cl .f32 b) = true) : iv (-1074) (wid (cl .f32 b)) + (tw 1178 : Int) ≤ (tw 1202 : Int) ∧ -(tw 1202 : Int) + (tw 1178 : Int) ≤ iv (-1074) (wid (cl .f32 b)) := by
  rw [wid_iv]
  cases hc : cl .f32 b <;> rw [hc] at h <;> simp only [isNum] at h <;> first | (cases h; done) | skip
  rename_i s m e
  obtain ⟨h1, h2, h3⟩ := cl32_bounds b hc
  obtain ⟨k, hk⟩ : ∃ k : Nat, e + 1074 = k := ⟨(e + 1074).toNat, by omega⟩
  rw [iv_of s m e k hk]
  have a1 : m * tw k + tw 1178 ≤ tw 24 * tw 1178 := by
    have b1 : tw k ≤ tw 1178 := tw_le (by omega)
    have b3 : m + 1 ≤ tw 24 := h1
    have b4 := Nat.mul_le_mul_right (tw 1178) b3
    rw [Nat.add_mul, Nat.one_mul] at b4
    have b5 := Nat.mul_le_mul_left m b1
    omega
  rw [← tw_add] at a1
  have hP : tw (24 + 1178) = tw 1202 := rfl
  rw [hP] at a1
  generalize tw 1202 = P at *
  generalize tw 1178 = Q at *
  generalize m * tw k = a at *
  cases s <;> simp <;> omega

/-- The floor of a float64, as the machine gives it. -/
def flo (x : Datum) : Datum := match x with
  | .nan _ _ => NaN
  | d => cl .f64 (FloatKind.f64.encode (d.integral .down))

/-- An angle without whole turns: what is left behind the floor of it and a half. -/
def left (W : Datum) : Datum := fop .sub .f64 W (flo (fop .add .f64 W (cl .f64 4602678819172646912)))

theorem c_half : cl .f64 4602678819172646912 = .number false 4503599627370496 (-53) := by decide +kernel

theorem c_one : cl .f64 4607182418800017408 = .number false 4503599627370496 (-52) := by decide +kernel

theorem c_127 : cl .f64 5179139571476070400 = .number false 4503599627370496 75 := by decide +kernel

theorem c_128 : cl .f64 5183643171103440896 = .number false 4503599627370496 76 := by decide +kernel

theorem c_m126 : cl .f64 14398008008703475712 = .number true 4503599627370496 74 := by decide +kernel

theorem c_lo : cl .f64 14404763408144531456 = .number true 6755399441055744 75 := by decide +kernel

theorem c_p126 : cl .f64 5174635971848699904 = .number false 4503599627370496 74 := by decide +kernel

theorem c_m127 : cl .f64 14402511608330846208 = .number true 4503599627370496 75 := by decide +kernel

theorem c_m128 : cl .f64 14407015207958216704 = .number true 4503599627370496 76 := by decide +kernel

theorem c_hi : cl .f64 5181391371289755648 = .number false 6755399441055744 75 := by decide +kernel

theorem c_hi32 : cl .f32 2134900736 = .number false 12582912 104 := by decide +kernel

theorem c_nought : cl .f64 0 = .number false 0 (-1074) := by decide +kernel

theorem c_lo32 : cl .f32 4282384384 = .number true 12582912 104 := by decide +kernel

theorem c_one32 : cl .f32 1065353216 = .number false 8388608 (-23) := by decide +kernel

theorem tw53 : (4503599627370496 : Nat) = tw 52 := rfl

theorem left_ok (b : Nat) (h : isNum (cl .f32 b) = true) : isNum (fop .add .f64 (wid (cl .f32 b)) (cl .f64 4602678819172646912)) = true ∧ isNum (left (wid (cl .f32 b))) = true ∧ isNum (nar (left (wid (cl .f32 b)))) = true := by
  have hW := wid_isNum b h
  obtain ⟨ww, hww⟩ := wid_fix b h
  obtain ⟨hw1, hw2⟩ := wid_bound b h
  unfold left
  generalize wid (cl .f32 b) = W at *
  have pW : place (-1074) W := by rw [hww]; exact place64 ww
  have nh : isNum (cl .f64 4602678819172646912) = true := by rw [c_half]; rfl
  have ph : place (-1074) (cl .f64 4602678819172646912) := place64 _
  obtain ⟨d, hd, nd, hdB⟩ := fop_add (k := .f64) hW nh
  obtain ⟨pd, ed⟩ := hdB (-1074) pW ph
  have eh : iv (-1074) (cl .f64 4602678819172646912) = (tw 1073 : Int) := by
    rw [c_half, iv_of _ _ _ 1021 (by omega), if_neg (by simp), tw53, ← tw_add]
  rw [eh] at ed
  rw [hd]
  -- powers
  have t1 : tw 1074 = 2 * tw 1073 := tw_succ 1073
  have t2 : tw 1201 = 2 * tw 1200 := tw_succ 1200
  have t3 : tw 1202 = 2 * tw 1201 := tw_succ 1201
  have t4 : tw 1074 ≤ tw 1200 := tw_le (by omega)
  have t5 : 0 < tw 1073 := tw_pos _
  have t6 : tw 1073 ≤ tw 1178 := tw_le (by omega)
  have t7 : tw 1074 ≤ tw 1178 := tw_le (by omega)
  have cst : ∀ (w : Nat) (s : Bool) (m : Nat) (i : Int), cl .f64 w = .number s m i → isNum (cl .f64 w) = true := fun w s m i e => by rw [e]; rfl
  have i1 : iv (-1074) (cl .f64 4607182418800017408) = (tw 1074 : Int) := by rw [c_one, iv_of _ _ _ 1022 (by omega), if_neg (by simp), tw53, ← tw_add]
  have i127 : iv (-1074) (cl .f64 5179139571476070400) = (tw 1201 : Int) := by rw [c_127, iv_of _ _ _ 1149 (by omega), if_neg (by simp), tw53, ← tw_add]
  have i128 : iv (-1074) (cl .f64 5183643171103440896) = (tw 1202 : Int) := by rw [c_128, iv_of _ _ _ 1150 (by omega), if_neg (by simp), tw53, ← tw_add]
  have im126 : iv (-1074) (cl .f64 14398008008703475712) = -(tw 1200 : Int) := by rw [c_m126, iv_of _ _ _ 1148 (by omega), if_pos rfl, tw53, ← tw_add]
  have three : (6755399441055744 : Nat) = 3 * tw 51 := rfl
  have three32 : (12582912 : Nat) = 3 * tw 22 := rfl
  have ilo : iv (-1074) (cl .f64 14404763408144531456) = -(3 * tw 1200 : Int) := by
    rw [c_lo, iv_of _ _ _ 1149 (by omega), if_pos rfl, three, Nat.mul_assoc, ← tw_add]
    simp
  have ilo32 : iv (-1074) (cl .f32 4282384384) = -(3 * tw 1200 : Int) := by
    rw [c_lo32, iv_of _ _ _ 1178 (by omega), if_pos rfl, three32, Nat.mul_assoc, ← tw_add]
    simp
  have i32 : iv (-1074) (cl .f32 1065353216) = (tw 1074 : Int) := by
    have e8 : (8388608 : Nat) = tw 23 := rfl
    rw [c_one32, iv_of _ _ _ 1051 (by omega), if_neg (by simp), e8, ← tw_add]
  have n1 := cst _ _ _ _ c_one
  have n127 := cst _ _ _ _ c_127
  have n128 := cst _ _ _ _ c_128
  have nm126 := cst _ _ _ _ c_m126
  have nlo := cst _ _ _ _ c_lo
  -- the sum rounded
  have fixW : rd .f64 W = W := by rw [hww]; exact rd_fix .f64 ww (by rw [← hww]; exact hW)
  have up : ∀ w, isNum (cl .f64 w) = true → iv (-1074) d ≤ iv (-1074) (cl .f64 w) → leF (rd .f64 d) (cl .f64 w) = true := fun w hn hle => by
    have := rd_mono .f64 nd hn ((leF_iv nd hn pd (place64 w)).2 hle)
    rwa [rd_fix .f64 w hn] at this
  have lowS : leF W (rd .f64 d) = true := by
    have := rd_mono .f64 hW nd ((leF_iv hW nd pW pd).2 (by omega))
    rwa [fixW] at this
  have hiS := up _ n128 (by rw [i128]; omega)
  have nS := num_between hW n128 lowS hiS
  have pS : place (-1074) (rd .f64 d) := place64 _
  have s1 := (leF_iv hW nS pW pS).1 lowS
  have s2 := (leF_iv nS n128 pS (place64 _)).1 hiS
  rw [i128] at s2
  have up' : ∀ w, isNum (cl .f64 w) = true → iv (-1074) d ≤ iv (-1074) (cl .f64 w) → iv (-1074) (rd .f64 d) ≤ iv (-1074) (cl .f64 w) := fun w hn hle => (leF_iv nS hn pS (place64 w)).1 (up w hn hle)
  have u127 := up' _ n127
  have u1 := up' _ n1
  have um126 := up' _ nm126
  rw [i127] at u127
  rw [i1] at u1
  rw [im126] at um126
  have fixS : rd .f64 (rd .f64 d) = rd .f64 d := rd_fix .f64 _ nS
  generalize rd .f64 d = S at *
  obtain ⟨nG, hG⟩ := floor_num nS
  obtain ⟨pG, g1, g2⟩ := hG (-1074) (by omega) pS
  have e74 : (-(-1074) : Int).toNat = 1074 := rfl
  rw [e74] at g2
  have hflo : flo S = rd .f64 (S.integral .down) := by
    cases S <;> simp only [isNum] at nS <;> first | (cases nS; done) | skip
    rfl
  rw [hflo]
  generalize S.integral .down = G at *
  -- the floor, rounded: not above S; not below what lies below the floor
  have hGS : leF (rd .f64 G) S = true := by
    have := rd_mono .f64 nG nS ((leF_iv nG nS pG pS).2 g1)
    rwa [fixS] at this
  have ip126 : iv (-1074) (cl .f64 5174635971848699904) = (tw 1200 : Int) := by rw [c_p126, iv_of _ _ _ 1148 (by omega), if_neg (by simp), tw53, ← tw_add]
  have im127 : iv (-1074) (cl .f64 14402511608330846208) = -(tw 1201 : Int) := by rw [c_m127, iv_of _ _ _ 1149 (by omega), if_pos rfl, tw53, ← tw_add]
  have im128 : iv (-1074) (cl .f64 14407015207958216704) = -(tw 1202 : Int) := by rw [c_m128, iv_of _ _ _ 1150 (by omega), if_pos rfl, tw53, ← tw_add]
  have i0 : iv (-1074) (cl .f64 0) = 0 := by rw [c_nought]; rfl
  have ihi : iv (-1074) (cl .f64 5181391371289755648) = (3 * tw 1200 : Int) := by
    rw [c_hi, iv_of _ _ _ 1149 (by omega), if_neg (by simp), three, Nat.mul_assoc, ← tw_add]
    simp
  have ihi32 : iv (-1074) (cl .f32 2134900736) = (3 * tw 1200 : Int) := by
    rw [c_hi32, iv_of _ _ _ 1178 (by omega), if_neg (by simp), three32, Nat.mul_assoc, ← tw_add]
    simp
  have np126 := cst _ _ _ _ c_p126
  have nm127 := cst _ _ _ _ c_m127
  have nm128 := cst _ _ _ _ c_m128
  have n0 := cst _ _ _ _ c_nought
  have nhi := cst _ _ _ _ c_hi
  have dn : ∀ w, isNum (cl .f64 w) = true → iv (-1074) (cl .f64 w) ≤ iv (-1074) G → leF (cl .f64 w) (rd .f64 G) = true := fun w hn hle => by
    have := rd_mono .f64 hn nG ((leF_iv hn nG (place64 w) pG).2 hle)
    rwa [rd_fix .f64 w hn] at this
  have nF := num_between nm128 nS (dn _ nm128 (by rw [im128]; omega)) hGS
  have pF : place (-1074) (rd .f64 G) := place64 _
  have f1 := (leF_iv nF nS pF pS).1 hGS
  have dn' : ∀ w, isNum (cl .f64 w) = true → iv (-1074) (cl .f64 w) ≤ iv (-1074) G → iv (-1074) (cl .f64 w) ≤ iv (-1074) (rd .f64 G) := fun w hn hle => (leF_iv hn nF (place64 w) pF).1 (dn w hn hle)
  have v126 := dn' _ np126
  have v127 := dn' _ nm127
  have v128 := dn' _ nm128
  have v0 := dn' _ n0
  rw [ip126] at v126
  rw [im127] at v127
  rw [im128] at v128
  rw [i0] at v0
  generalize rd .f64 G = F at *
  obtain ⟨e, he, ne, heB⟩ := fop_sub (k := .f64) hW nF
  obtain ⟨pe, ee⟩ := heB (-1074) pW pF
  rw [he]
  have b1 : iv (-1074) e ≤ (3 * tw 1200 : Int) := by
    rw [ee]
    by_cases q1 : (tw 1201 : Int) ≤ iv (-1074) W
    · have := v126 (by omega); omega
    · by_cases q2 : (tw 1200 : Int) ≤ iv (-1074) W
      · have := v0 (by omega); omega
      · by_cases q3 : -(tw 1201 : Int) + (tw 1074 : Int) ≤ iv (-1074) W
        · have := v127 (by omega); omega
        · have := v128 (by omega); omega
  have b2 : -(3 * tw 1200 : Int) ≤ iv (-1074) e := by
    rw [ee]
    by_cases q1 : (tw 1200 : Int) ≤ iv (-1074) W
    · omega
    · by_cases q2 : -(tw 1200 : Int) ≤ iv (-1074) W
      · have := u127 (by omega); omega
      · by_cases q3 : -(tw 1201 : Int) ≤ iv (-1074) W
        · have := u1 (by omega); omega
        · have := um126 (by omega); omega
  obtain ⟨nD, d1, d2⟩ := rd_between .f64 ne nlo nhi ((leF_iv nlo ne (place64 _) pe).2 (by rw [ilo]; exact b2)) ((leF_iv ne nhi pe (place64 _)).2 (by rw [ihi]; exact b1))
  have pD : place (-1074) (rd .f64 e) := place64 _
  have d1 := (leF_iv nlo nD (place64 _) pD).1 d1
  have d2 := (leF_iv nD nhi pD (place64 _)).1 d2
  rw [ilo] at d1
  rw [ihi] at d2
  refine ⟨nS, nD, ?_⟩
  rw [nar_rd nD]
  have nlo32 : isNum (cl .f32 4282384384) = true := by rw [c_lo32]; rfl
  have nhi32 : isNum (cl .f32 2134900736) = true := by rw [c_hi32]; rfl
  exact (rd_between .f32 nD nlo32 nhi32 ((leF_iv nlo32 nD (place32 _) pD).2 (by rw [ilo32]; exact d1)) ((leF_iv nD nhi32 pD (place32 _)).2 (by rw [ihi32]; exact d2))).1

end Go.Flt

/-
  PLAIN LAWS OF FLOATS: how far rounding moves a number.
-/
namespace Go.Flt
open Go Ieee

theorem rne_err (n : Nat) {g : Nat} (hg : 0 < g) : 2 * (rne n g * g) ≤ 2 * n + g ∧ 2 * n ≤ 2 * (rne n g * g) + g := by
  unfold rne
  have h1 := Nat.div_add_mod n g
  rw [Nat.mul_comm] at h1
  split
  · rw [Nat.add_mul]
    rename_i h
    generalize n / g * g = u at *
    have := Nat.mod_lt n hg
    omega
  · rw [Nat.add_zero]
    generalize n / g * g = u at *
    omega

theorem vN_rgN (f : Format) (l N : Nat) (h0 : 0 < N) : vN f (rgN f.fractionBits l N) * 2 ^ l = rne N (2 ^ lastN f.fractionBits l N) * 2 ^ lastN f.fractionBits l N := by
  have hbin : f.binade = 2 ^ f.fractionBits := rfl
  have hp := Nat.two_pow_pos
  have hN : N < 2 ^ (N.log2 + 1) := Nat.lt_log2_self
  have hM : 2 ^ N.log2 ≤ N := Nat.log2_self_le (by omega)
  have a1 : rne N (2 ^ lastN f.fractionBits l N) ≤ 2 * 2 ^ f.fractionBits := by
    refine rne_le (hp _) ?_
    have : 2 ^ (N.log2 + 1) ≤ 2 ^ (lastN f.fractionBits l N + (f.fractionBits + 1)) := Nat.pow_le_pow_right (by omega) (by unfold lastN; omega)
    have e : 2 ^ (lastN f.fractionBits l N + (f.fractionBits + 1)) = 2 ^ lastN f.fractionBits l N * (2 * 2 ^ f.fractionBits) := by rw [Nat.pow_add 2 _ (f.fractionBits + 1), Nat.pow_succ 2 f.fractionBits, Nat.mul_comm (2 ^ f.fractionBits) 2]
    omega
  have a2 : l < lastN f.fractionBits l N → 2 ^ f.fractionBits ≤ rne N (2 ^ lastN f.fractionBits l N) := by
    intro hl
    refine le_rne (hp _) ?_
    rw [← Nat.pow_add]
    refine Nat.le_trans (Nat.pow_le_pow_right (by omega) ?_) hM
    unfold lastN at *
    omega
  have a3 : l ≤ lastN f.fractionBits l N := by unfold lastN; omega
  obtain ⟨c, hc⟩ : ∃ c, lastN f.fractionBits l N = l + c := ⟨_, (Nat.add_sub_of_le a3).symm⟩
  unfold rgN
  rw [hc] at a1 a2 ⊢
  generalize rne N (2 ^ (l + c)) = q at *
  have e1 : l + c - l = c := by omega
  rw [e1, Nat.pow_add, Nat.mul_comm (2 ^ l), ← Nat.mul_assoc]
  congr 1
  unfold vN
  rw [hbin]
  have hb := hp f.fractionBits
  generalize 2 ^ f.fractionBits = b at *
  by_cases h1 : c * b + q < b
  · rw [if_pos h1]
    have : c = 0 := by
      rcases Nat.eq_zero_or_pos c with h | h
      · exact h
      · have : 1 * b ≤ c * b := Nat.mul_le_mul_right b h
        omega
    subst this
    simp
  · rw [if_neg h1]
    have hq : b ≤ q := by
      rcases Nat.eq_zero_or_pos c with rfl | h
      · omega
      · exact a2 (by omega)
    rcases Nat.lt_or_ge q (2 * b) with h2 | h2
    · have e : c * b + q = b * (c + 1) + (q - b) := by rw [Nat.mul_add, Nat.mul_comm c b]; omega
      have d1 : (c * b + q) / b = c + 1 := by rw [e, Nat.mul_add_div hb, Nat.div_eq_of_lt (by omega)]
      have d2 : (c * b + q) % b = q - b := by rw [e, Nat.mul_add_mod, Nat.mod_eq_of_lt (by omega)]
      rw [d1, d2]
      congr 1
      omega
    · have hq2 : q = 2 * b := by omega
      subst hq2
      have e : c * b + 2 * b = b * (c + 2) := by rw [Nat.mul_add, Nat.mul_comm c b, Nat.mul_comm 2 b]
      have d1 : (c * b + 2 * b) / b = c + 2 := by rw [e, Nat.mul_div_cancel_left _ hb]
      have d2 : (c * b + 2 * b) % b = 0 := by rw [e, Nat.mul_mod_right]
      rw [d1, d2]
      have : c + 2 - 1 = c + 1 := by omega
      rw [this, Nat.pow_succ, Nat.add_zero, Nat.mul_comm (2 ^ c) 2, ← Nat.mul_assoc, Nat.mul_comm b 2]

theorem last_le (fb l N : Nat) (h0 : 0 < N) : 2 ^ lastN fb l N * 2 ^ fb ≤ max N (2 ^ (l + fb)) := by
  rw [← Nat.pow_add]
  have hM : 2 ^ N.log2 ≤ N := Nat.log2_self_le (by omega)
  unfold lastN
  rcases Nat.lt_or_ge (N.log2) (l + fb) with h | h
  · have : max (N.log2 - fb) l + fb = l + fb := by omega
    rw [this]; omega
  · have : max (N.log2 - fb) l + fb = N.log2 := by omega
    rw [this]; omega

/-- HOW FAR ROUNDING MOVES A NUMBER: by no more than half a unit of its last place. -/
theorem rd_err (k : FloatKind) (s : Bool) (m : Nat) (p B : Int) (h1 : B ≤ p) (h2 : B ≤ k.format.leastPlace) (hr : isNum (rd k (.number s m p)) = true) :
    ∃ N R E : Nat, iv B (.number s m p) = (if s then -(N : Int) else N) ∧ iv B (rd k (.number s m p)) = (if s then -(R : Int) else R) ∧ place B (rd k (.number s m p)) ∧
      R ≤ N + E ∧ N ≤ R + E ∧ 2 * 2 ^ k.format.fractionBits * E ≤ max N (2 ^ ((k.format.leastPlace - B).toNat + k.format.fractionBits)) := by
  by_cases hm : m = 0
  · subst hm
    rw [rd_num] at hr ⊢
    have : rung k.format (.number s 0 p) = 0 := by simp [rung]
    rw [this]
    refine ⟨0, 0, 0, ?_, ?_, ?_, by omega, by omega, by omega⟩
    · cases s <;> simp [iv, signed]
    · have hlt : 0 < k.format.infRung := by cases k <;> decide
      have hb : 0 < k.format.binade := Nat.two_pow_pos _
      rw [read_rung _ s hlt, if_pos hb]
      cases s <;> simp [iv, signed]
    · have hlt : 0 < k.format.infRung := by cases k <;> decide
      rw [read_rung _ s hlt]
      split
      · exact h2
      · show B ≤ _
        omega
  · have hl := rung_le k.format (.number s m p)
    have hb := rung_base k.format s hm p B h1 h2
    rw [rd_num] at hr ⊢
    have hN : 0 < m * 2 ^ (p - B).toNat := Nat.mul_pos (by omega) (Nat.two_pow_pos _)
    have hr2 : rung k.format (.number s m p) ≠ k.format.infRung := by
      intro h
      rw [h, read_inf _ (fmt_inf k)] at hr
      cases hr
    have hrg : rung k.format (.number s m p) = rgN k.format.fractionBits (k.format.leastPlace - B).toNat (m * 2 ^ (p - B).toNat) := by omega
    have hlt : rung k.format (.number s m p) < k.format.infRung := by omega
    have hv := vN_rgN k.format (k.format.leastPlace - B).toNat _ hN
    rw [← hrg] at hv
    have he := rne_err (m * 2 ^ (p - B).toNat) (Nat.two_pow_pos (lastN k.format.fractionBits (k.format.leastPlace - B).toNat (m * 2 ^ (p - B).toNat)))
    have hm2 := last_le k.format.fractionBits (k.format.leastPlace - B).toNat _ hN
    have hi := iv_rung k.format s hlt
    have hrd : ∃ a j, k.format.read (k.format.word s (rung k.format (.number s m p))) = .number s a j ∧ k.format.leastPlace ≤ j := by
      rw [read_rung _ s hlt]
      split
      · exact ⟨_, _, rfl, by omega⟩
      · exact ⟨_, _, rfl, by omega⟩
    obtain ⟨a, j, hj, hjl⟩ := hrd
    rw [hj] at hi ⊢
    generalize rung k.format (.number s m p) = r at *
    generalize lastN k.format.fractionBits (k.format.leastPlace - B).toNat (m * 2 ^ (p - B).toNat) = t at *
    rw [← hv] at he
    have hsh := iv_shift B s a j k.format.leastPlace h2 hjl
    have hi' : signed s a (j - k.format.leastPlace).toNat = if s then -(vN k.format r : Int) else vN k.format r := hi
    refine ⟨m * 2 ^ (p - B).toNat, vN k.format r * 2 ^ (k.format.leastPlace - B).toNat, 2 ^ t / 2, ?_, ?_, ?_, ?_, ?_, ?_⟩
    · simp only [iv, signed, Nat.shiftLeft_eq]
    · show signed s a (j - B).toNat = _
      rw [← hsh, hi']
      cases s <;> simp [Int.neg_mul]
    · show B ≤ j
      omega
    · omega
    · omega
    · have : 2 * 2 ^ k.format.fractionBits * (2 ^ t / 2) ≤ 2 ^ t * 2 ^ k.format.fractionBits := by
        rw [Nat.mul_comm 2, Nat.mul_assoc, Nat.mul_comm (2 ^ t)]
        exact Nat.mul_le_mul_left _ (Nat.mul_div_le _ _)
      omega

theorem err64 {d : Datum} (hd : isNum d = true) (hp : place (-1074) d) (hr : isNum (rd .f64 d) = true) :
    (iv (-1074) (rd .f64 d) - iv (-1074) d).natAbs * tw 53 ≤ max (iv (-1074) d).natAbs (tw 52) := by
  cases d <;> simp only [isNum] at hd <;> first | (cases hd; done) | skip
  rename_i s m p
  obtain ⟨N, R, E, hN, hR, _, h1, h2, h3⟩ := rd_err .f64 s m p (-1074) hp (by decide) hr
  have e1 : 2 * 2 ^ FloatKind.f64.format.fractionBits = tw 53 := by unfold tw; rfl
  have e2 : 2 ^ ((FloatKind.f64.format.leastPlace - (-1074)).toNat + FloatKind.f64.format.fractionBits) = tw 52 := by unfold tw; rfl
  rw [e1, e2] at h3
  rw [hN, hR]
  have h4 : (( if s = true then -(R : Int) else R) - if s = true then -(N : Int) else N).natAbs ≤ E := by cases s <;> simp <;> omega
  have h5 : (if s = true then -(N : Int) else N).natAbs = N := by cases s <;> simp
  rw [h5]
  have := Nat.mul_le_mul_right (tw 53) h4
  rw [Nat.mul_comm (tw 53)] at h3
  omega

theorem err32 {d : Datum} (hd : isNum d = true) (hp : place (-1074) d) (hr : isNum (rd .f32 d) = true) :
    place (-1074) (rd .f32 d) ∧ (iv (-1074) (rd .f32 d) - iv (-1074) d).natAbs * tw 24 ≤ max (iv (-1074) d).natAbs (tw 948) := by
  cases d <;> simp only [isNum] at hd <;> first | (cases hd; done) | skip
  rename_i s m p
  obtain ⟨N, R, E, hN, hR, hpl, h1, h2, h3⟩ := rd_err .f32 s m p (-1074) hp (by decide) hr
  refine ⟨hpl, ?_⟩
  have e1 : 2 * 2 ^ FloatKind.f32.format.fractionBits = tw 24 := by unfold tw; rfl
  have e2 : tw ((FloatKind.f32.format.leastPlace - (-1074)).toNat + FloatKind.f32.format.fractionBits) = tw 948 := congrArg tw (by decide)
  rw [e1, tw_eq, e2] at h3
  rw [hN, hR]
  have h4 : (( if s = true then -(R : Int) else R) - if s = true then -(N : Int) else N).natAbs ≤ E := by cases s <;> simp <;> omega
  have h5 : (if s = true then -(N : Int) else N).natAbs = N := by cases s <;> simp
  rw [h5]
  have := Nat.mul_le_mul_right (tw 24) h4
  rw [Nat.mul_comm (tw 24)] at h3
  omega

end Go.Flt

