/-
  A REGION THAT DRAWS ITS ORDER, WHOSE OPERATIONS KEEP THE WORLD IN A CLASS, THEIR VALUES LEFT OPEN: ONE WALK OF THE TEXT's ORDER SERVES EVERY ORDER.
-/
import Derived.WalkKit
import Derived.Deep.Draws
import Derived.Still
import Derived.Test.YtkippcjifikegaaFlt
namespace Go.Flt
open Go

section
variable {P : Program} {ops : Array Oper} {md : Region.Mode} {T : FuncId → Array Value → Value → Prop} {C : World → Prop}

/-- What an operation has yielded: a value, in a world of the class; or a call whose contract stands in the table. -/
def freeUpon (P : Program) (T : FuncId → Array Value → Value → Prop) (C : World → Prop) (N : Value → Prop) : Result Next → Prop
  | .ok (.value u) w' => C w' ∧ N u
  | .ok .skip w' => C w' ∧ N undef
  | .ok (.enter f args) w' => C w' ∧ (∀ w, C w → Calls P f args w (fun e w'' => ∃ v, e = .returned v ∧ T f args v ∧ C w'')) ∧ ∀ v, T f args v → N v
  | _ => False

def Free (P : Program) (T : FuncId → Array Value → Value → Prop) (C : World → Prop) (o : Oper) (a : Act) (next : Act → Prop) : Prop :=
  ∀ w, C w → freeUpon P T C (fun v => next (a.put o.dst v)) ((execOp a.eval o).run P w)

def wpFree (P : Program) (T : FuncId → Array Value → Value → Prop) (C : World → Prop) (ops : Array Oper) (Q : Act → Prop) : List Oper → Act → Prop
  | [], a => Q a
  | o :: rest, a => if Region.wanted o (yielded ops a.tmps) then Free P T C o a (wpFree P T C ops Q rest) else wpFree P T C ops Q rest (a.put o.dst undef)

theorem wpFree_nil {Q : Act → Prop} {a : Act} (h : Q a) : wpFree P T C ops Q [] a := h
theorem wpFree_want {Q : Act → Prop} {a : Act} {o : Oper} {rest : List Oper} (hw : Region.wanted o (yielded ops a.tmps) = true) (h : ∀ K : Act → Prop, (∀ a, wpFree P T C ops Q rest a → K a) → Free P T C o a K) :
    wpFree P T C ops Q (o :: rest) a := by
  unfold wpFree
  rw [if_pos hw]
  exact h _ fun _ h => h
theorem wpFree_skip {Q : Act → Prop} {a : Act} {o : Oper} {rest : List Oper} (hw : Region.wanted o (yielded ops a.tmps) = false) (h : wpFree P T C ops Q rest (a.put o.dst undef)) : wpFree P T C ops Q (o :: rest) a := by
  unfold wpFree
  rw [if_neg (by rw [hw]; exact Bool.false_ne_true)]
  exact h

/-- A value that the operation may yield. -/
def outcome (T : FuncId → Array Value → Value → Prop) (v : Value) : Result Next → Prop
  | .ok (.value u) _ => v = u
  | .ok .skip _ => v = undef
  | .ok (.enter f args) _ => T f args v
  | _ => False

/-- The operation goes through from this state. -/
def Goes (P : Program) (T : FuncId → Array Value → Value → Prop) (C : World → Prop) (ops : Array Oper) (o : Oper) (a : Act) : Prop :=
  Region.wanted o (yielded ops a.tmps) = true → Free P T C o a (fun _ => True)

def Gives (P : Program) (T : FuncId → Array Value → Value → Prop) (C : World → Prop) (ops : Array Oper) (o : Oper) (a : Act) (v : Value) : Prop :=
  (Region.wanted o (yielded ops a.tmps) = true ∧ ∃ w, C w ∧ outcome T v ((execOp a.eval o).run P w)) ∨ (Region.wanted o (yielded ops a.tmps) = false ∧ v = undef)

def fOp (P : Program) (T : FuncId → Array Value → Value → Prop) (C : World → Prop) (ops : Array Oper) (i : Nat) (K : Act → Prop) (a : Act) : Prop :=
  match ops[i]? with
  | none => K a
  | some o => Goes P T C ops o a ∧ ∀ v, Gives P T C ops o a v → K (a.put o.dst v)

theorem freeUpon_iff {N : Value → Prop} {r : Result Next} : freeUpon P T C N r ↔ freeUpon P T C (fun _ => True) r ∧ ∀ v, outcome T v r → N v := by
  cases r with
  | halt h w => simp [freeUpon]
  | ok n w =>
    cases n <;> simp only [freeUpon, outcome, false_and, iff_self]
    case value u => exact ⟨fun h => ⟨⟨h.1, trivial⟩, fun v e => by rw [e]; exact h.2⟩, fun h => ⟨h.1.1, h.2 _ rfl⟩⟩
    case skip => exact ⟨fun h => ⟨⟨h.1, trivial⟩, fun v e => by rw [e]; exact h.2⟩, fun h => ⟨h.1.1, h.2 _ rfl⟩⟩
    case enter f args => exact ⟨fun h => ⟨⟨h.1, h.2.1, fun _ _ => trivial⟩, h.2.2⟩, fun h => ⟨h.1.1, h.1.2.1, h.2⟩⟩

theorem fOp_of_walk {i : Nat} {o : Oper} {a : Act} {K : Act → Prop} (hi : ops[i]? = some o)
    (h : if Region.wanted o (yielded ops a.tmps) then Free P T C o a K else K (a.put o.dst undef)) : fOp P T C ops i K a := by
  unfold fOp
  simp only [hi]
  by_cases hw : Region.wanted o (yielded ops a.tmps) = true
  · rw [if_pos hw] at h
    refine ⟨fun _ w hc => (freeUpon_iff.1 (h w hc)).1, fun v hv => ?_⟩
    rcases hv with ⟨_, w, hc, hv⟩ | ⟨h0, _⟩
    · exact (freeUpon_iff.1 (h w hc)).2 v hv
    · rw [hw] at h0; cases h0
  · rw [if_neg hw] at h
    refine ⟨fun h0 => absurd h0 hw, fun v hv => ?_⟩
    rcases hv with ⟨h0, _⟩ | ⟨_, rfl⟩
    · exact absurd h0 hw
    · exact h

def wpAnyF (P : Program) (T : FuncId → Array Value → Value → Prop) (C : World → Prop) (md : Region.Mode) (ops : Array Oper) (Q : Act → Prop) : Nat → Array Bool → Act → Prop
  | 0, listed, a => Region.ready md ops listed = [] ∧ Q a
  | fuel + 1, listed, a =>
    (Region.ready md ops listed = [] → Q a) ∧
    ∀ i ∈ Region.ready md ops listed, fOp P T C ops i (wpAnyF P T C md ops Q fuel (listed.setIfInBounds i true)) a

theorem wpOp_of_fOp {i : Nat} {a : Act} {K : Act → Prop} {K' : Act → World → Prop} {Q' : Exit → Act → World → Prop} {w : World} (hC : C w) (h : ∀ a w', C w' → K a → K' a w') (hh : fOp P T C ops i K a) : wpOp P ops Q' i K' a w := by
  unfold fOp at hh
  unfold wpOp
  split
  · rename_i ho; simp only [ho] at hh; exact h _ _ hC hh
  · rename_i o ho
    simp only [ho] at hh
    obtain ⟨h1, h2⟩ := hh
    split
    · rename_i hw
      refine .inl ?_
      have h3 := h1 hw w hC
      have h4 : ∀ v, outcome T v ((execOp a.eval o).run P w) → K (a.put o.dst v) := fun v hv => h2 v (.inl ⟨hw, w, hC, hv⟩)
      unfold Oper.wp
      generalize (execOp a.eval o).run P w = r at *
      cases r with
      | halt x w' => simp only [freeUpon] at h3
      | ok n w' =>
        cases n <;> simp only [freeUpon] at h3 <;> simp only [Oper.upon]
        case value u => exact h _ _ h3.1 (h4 _ rfl)
        case skip => exact h _ _ h3.1 (h4 _ rfl)
        case enter f args => exact (h3.2.1 _ h3.1).mono fun e w'' ⟨v, he, ht, hc⟩ => by subst he; exact h _ _ hc (h4 _ ht)
    · rename_i hw; exact h _ _ hC (h2 _ (.inr ⟨by simpa using hw, rfl⟩))

theorem wpAny_of_free {Q : Act → Prop} {Q' : Exit → Act → World → Prop} (hQ : ∀ a w, C w → Q a → Q' .normal a w) : ∀ (fuel : Nat) (listed : Array Bool) (a : Act) (w : World), C w →
    wpAnyF P T C md ops Q fuel listed a → wpAny P md ops Q' fuel listed a w
  | 0, _, _, _, hw, h => ⟨h.1, hQ _ _ hw h.2⟩
  | fuel + 1, _, _, _, hw, h => ⟨fun h0 => hQ _ _ hw (h.1 h0), fun i hi => wpOp_of_fOp hw (fun a' w' hw' => wpAny_of_free hQ fuel _ a' w' hw') (h.2 i hi)⟩

theorem Goes.put {oi oj : Oper} {a : Act} {v : Value} (hap : oi.apart ops oj = true) (hsj : ∀ cs b, oj.op ≠ .select cs b) : Goes P T C ops oj (a.put oi.dst v) ↔ Goes P T C ops oj a := by
  obtain ⟨h1, h2, h3⟩ := Oper.apart_spec hap
  unfold Goes Free
  rw [wanted_put oj a oi.dst v h1, execOp_put oj hsj a oi.dst v h1]

theorem Gives.put {oi oj : Oper} {a : Act} {v u : Value} (hap : oi.apart ops oj = true) (hsj : ∀ cs b, oj.op ≠ .select cs b) : Gives P T C ops oj (a.put oi.dst v) u ↔ Gives P T C ops oj a u := by
  obtain ⟨h1, h2, h3⟩ := Oper.apart_spec hap
  unfold Gives
  rw [wanted_put oj a oi.dst v h1, execOp_put oj hsj a oi.dst v h1]

theorem Goes.put' {oi oj : Oper} {a : Act} {u : Value} (hap : oi.apart ops oj = true) (hsi : ∀ cs b, oi.op ≠ .select cs b) : Goes P T C ops oi (a.put oj.dst u) ↔ Goes P T C ops oi a := by
  obtain ⟨h1, h2, h3⟩ := Oper.apart_spec hap
  unfold Goes Free
  rw [wanted_put oi a oj.dst u h3, execOp_put oi hsi a oj.dst u h3]

theorem Gives.put' {oi oj : Oper} {a : Act} {u v : Value} (hap : oi.apart ops oj = true) (hsi : ∀ cs b, oi.op ≠ .select cs b) : Gives P T C ops oi (a.put oj.dst u) v ↔ Gives P T C ops oi a v := by
  obtain ⟨h1, h2, h3⟩ := Oper.apart_spec hap
  unfold Gives
  rw [wanted_put oi a oj.dst u h3, execOp_put oi hsi a oj.dst u h3]

theorem wpAnyF_first {Q : Act → Prop} {i : Nat} {oi : Oper} (hi : ops[i]? = some oi) (hsel : ∀ (j : Nat) (o : Oper) cs b, ops[j]? = some o → o.op ≠ .select cs b) :
    ∀ (fuel : Nat) (listed : Array Bool) (a : Act),
      (∀ j oj, ops[j]? = some oj → j ≠ i → listed.getD j true = false → (∀ e ∈ oj.after, Region.binds md e = true → e.on ≠ i) → oi.apart ops oj = true) →
      i ∈ Region.ready md ops listed → Goes P T C ops oi a → (∃ v, Gives P T C ops oi a v) →
      (∀ v, Gives P T C ops oi a v → wpAnyF P T C md ops Q fuel (listed.setIfInBounds i true) (a.put oi.dst v)) → wpAnyF P T C md ops Q (fuel + 1) listed a := by
  intro fuel
  induction fuel with
  | zero =>
    intro listed a _ hr hy ⟨v0, hv0⟩ H
    refine ⟨fun h => (by rw [h] at hr; cases hr), fun j hj => ?_⟩
    by_cases hji : j = i
    · subst hji; unfold fOp; simp only [hi]; exact ⟨hy, H⟩
    · have := ready_mono hj hji
      rw [(H v0 hv0).1] at this
      cases this
  | succ fuel ih =>
    intro listed a hfree hr hy ⟨v0, hv0⟩ H
    refine ⟨fun h => (by rw [h] at hr; cases hr), fun j hj => ?_⟩
    by_cases hji : j = i
    · subst hji; unfold fOp; simp only [hi]; exact ⟨hy, H⟩
    · obtain ⟨hjun, oj, hoj, hall⟩ := mem_ready.1 hj
      have hnot : ∀ e ∈ oj.after, Region.binds md e = true → e.on ≠ i := fun e he hb heq => by
        have h1 := hall e he hb
        have h0 := (mem_ready.1 hr).1
        rw [heq] at h1
        rcases Nat.lt_or_ge i listed.size with h' | h'
        · simp [h'] at h0 h1; rw [h0] at h1; cases h1
        · simp [Array.getElem?_eq_none h'] at h1
      have hap := hfree j oj hoj hji hjun hnot
      have hsi := fun cs b => hsel i oi cs b hi
      have hsj := fun cs b => hsel j oj cs b hoj
      have h1 : ∀ v, Gives P T C ops oi a v → fOp P T C ops j (wpAnyF P T C md ops Q fuel ((listed.setIfInBounds i true).setIfInBounds j true)) (a.put oi.dst v) := fun v hv => (H v hv).2 j (ready_mono hj hji)
      have hfree' : ∀ k ok, ops[k]? = some ok → k ≠ i → (listed.setIfInBounds j true).getD k true = false →
          (∀ e ∈ ok.after, Region.binds md e = true → e.on ≠ i) → oi.apart ops ok = true := fun k ok hk hki hun hno => by
        refine hfree k ok hk hki ?_ hno
        by_cases hjk : j = k
        · subst hjk; exact hjun
        · rw [getD_set_ne true hjk] at hun; exact hun
      unfold fOp at h1 ⊢
      simp only [hoj] at h1 ⊢
      refine ⟨(Goes.put hap hsj).1 (h1 v0 hv0).1, fun u hu => ?_⟩
      refine ih (listed.setIfInBounds j true) (a.put oj.dst u) hfree' (ready_mono hr (Ne.symm hji)) ((Goes.put' hap hsi).2 hy) ⟨v0, (Gives.put' hap hsi).2 hv0⟩ fun v hv => ?_
      have h2 := (h1 v ((Gives.put' hap hsi).1 hv)).2 u ((Gives.put hap hsj).2 hu)
      rw [Array.setIfInBounds_comm _ _ hji]
      rw [Act.put_comm a v u (Oper.apart_spec hap).2.1] at h2
      exact h2

theorem gives_some {o : Oper} {a : Act} (h : Goes P T C ops o a) (hC : ∃ w, C w) : ∃ v, Gives P T C ops o a v := by
  by_cases hw : Region.wanted o (yielded ops a.tmps) = true
  · obtain ⟨w, hc⟩ := hC
    have h1 := h hw w hc
    suffices hh : ∃ v, outcome T v ((execOp a.eval o).run P w) from ⟨hh.choose, .inl ⟨hw, w, hc, hh.choose_spec⟩⟩
    generalize (execOp a.eval o).run P w = r at *
    cases r with
    | halt x w' => simp only [freeUpon] at h1
    | ok n w' =>
      cases n <;> simp only [freeUpon] at h1 <;> simp only [outcome]
      case value u => exact ⟨u, rfl⟩
      case skip => exact ⟨undef, rfl⟩
      case enter f args =>
        obtain ⟨e, w'', fr, ⟨v, _, ht, _⟩, _⟩ := h1.2.1 _ h1.1 []
        exact ⟨v, ht⟩
  · exact ⟨undef, .inr ⟨by simpa using hw, rfl⟩⟩

theorem wpAnyF_lex {Q : Act → Prop} (hs : Region.noSelect ops = true) (hC : ∃ w, C w) : ∀ (l : List Oper) (k : Nat) (listed : Array Bool) (a : Act), (∀ j, l[j]? = ops[k + j]?) →
    Region.lexFrom md ops l.length k listed = true → wpFree P T C ops Q l a → wpAnyF P T C md ops Q l.length listed a
  | [], _, _, _, _, hB, h => ⟨by simpa [Region.lexFrom] using hB, h⟩
  | o :: l, k, listed, a, hl, hB, h => by
    have h0 : ops[k]? = some o := by simpa using (hl 0).symm
    simp only [List.length_cons, Region.lexFrom, Bool.and_eq_true] at hB
    obtain ⟨⟨hr, hf⟩, hB'⟩ := hB
    have hst : fOp P T C ops k (wpFree P T C ops Q l) a := fOp_of_walk h0 h
    unfold fOp at hst
    simp only [h0] at hst
    exact wpAnyF_first h0 (Region.noSelect_spec hs) l.length listed a (Region.free_spec h0 hf) (by simpa using hr) hst.1 (gives_some hst.1 hC) fun v hv =>
      wpAnyF_lex hs hC l (k + 1) _ _ (fun j => by have := hl (j + 1); simpa [Nat.add_assoc, Nat.add_comm 1 j] using this) hB' (hst.2 v hv)

/-- **ONE WALK OF THE TEXT's ORDER SERVES EVERY ORDER, THE VALUES LEFT OPEN.** -/
theorem wp_region_free {id : Nat} {Q : Exit → Act → World → Prop} {a : Act} {w : World} (T : FuncId → Array Value → Value → Prop) (C : World → Prop) (hm : P.follows .mixedOrders = true) (hB : Region.lexB .any ops = true) (hC : C { w with drawn := w.drawn + 1 })
    (h : wpFree P T C ops (fun a' => ∀ w', C w' → Q .normal a' w') ops.toList a) : (Code.region id ops true).wp P Q a w := by
  simp only [Region.lexB, Bool.and_eq_true] at hB
  refine wp_region_any hm (wpAny_of_free (T := T) (Q := fun a' => ∀ w', C w' → Q .normal a' w') (fun _ w' hw' h => h w' hw') _ _ _ _ hC ?_)
  have := wpAnyF_lex (T := T) (C := C) (md := .any) hB.1 ⟨_, hC⟩ ops.toList 0 (Array.replicate ops.size false) a (by simp) (by simpa using hB.2) h
  simpa using this
end

section
variable {P : Program} {T : FuncId → Array Value → Value → Prop}

/-- The class 'w after some draws'. -/
def Drawn (w w' : World) : Prop := ∃ n, w' = w.drewN n
@[go_sem] theorem drawn_of (w : World) (n : Nat) : Drawn w (w.drewN n) = True := by simp only [eq_iff_iff, iff_true]; exact ⟨n, rfl⟩
/-- The class 'nothing that was there has turned'. -/
def Grew (w w' : World) : Prop := RowKit.Below w.heap.size w w'
@[go_sem] theorem grew_drewN (w w' : World) (n : Nat) : Grew w (w'.drewN n) = Grew w w' := by
  simp only [eq_iff_iff]
  exact ⟨fun h => ⟨h.os, h.tape, h.output, h.size, h.block⟩, fun h => ⟨h.os, h.tape, h.output, h.size, h.block⟩⟩
theorem drawn_cells {w w' : World} (h : Drawn w w') : (∀ a, w'.cell? a = w.cell? a) ∧ (∀ a, w'.frozen? a = w.frozen? a) ∧ w'.heap = w.heap := by
  obtain ⟨n, rfl⟩ := h
  exact ⟨fun _ => rfl, fun _ => rfl, rfl⟩
theorem drawn_draw {w : World} : ∀ w' n, Drawn w w' → Drawn w (w'.drewN n) := fun w' n ⟨m, h⟩ => ⟨m + n, by rw [h, World.drewN_drewN]⟩
theorem grew_draw {w : World} : ∀ w' n, Grew w w' → Grew w (w'.drewN n) := fun w' n h => (grew_drewN w w' n).symm ▸ h

theorem wp_region_drawn {id : Nat} {Q : Exit → Act → World → Prop} {a : Act} {w : World} {l : List Oper} (T : FuncId → Array Value → Value → Prop) (hm : P.follows .mixedOrders = true) (hB : Region.lexB .any l.toArray = true)
    (h : wpFree P T (Drawn w) l.toArray (fun a' => ∀ w', Drawn w w' → Q .normal a' w') l a) : (Code.region id l.toArray true).wp P Q a w :=
  wp_region_free T (Drawn w) hm hB ⟨1, rfl⟩ (by simpa using h)

theorem wp_region_grew {id : Nat} {Q : Exit → Act → World → Prop} {a : Act} {w : World} {l : List Oper} (T : FuncId → Array Value → Value → Prop) (hm : P.follows .mixedOrders = true) (hB : Region.lexB .any l.toArray = true)
    (h : wpFree P T (Grew w) l.toArray (fun a' => ∀ w', Grew w w' → Q .normal a' w') l a) : (Code.region id l.toArray true).wp P Q a w :=
  wp_region_free T (Grew w) hm hB ⟨rfl, rfl, rfl, Nat.le_refl _, fun _ _ => rfl⟩ (by simpa using h)

variable {C : World → Prop}

@[go_sem] theorem freeUpon_value (N : Value → Prop) (u : Value) (w : World) : freeUpon P T C N (.ok (.value u) w) = (C w ∧ N u) := rfl
@[go_sem] theorem freeUpon_skip (N : Value → Prop) (w : World) : freeUpon P T C N (.ok .skip w) = (C w ∧ N undef) := rfl
@[go_sem] theorem freeUpon_enter (N : Value → Prop) (f : FuncId) (args : Array Value) (w : World) :
    freeUpon P T C N (.ok (.enter f args) w) = (C w ∧ (∀ w, C w → Calls P f args w (fun e w'' => ∃ v, e = .returned v ∧ T f args v ∧ C w'')) ∧ ∀ v, T f args v → N v) := rfl

/-- + - * / in such a region. -/
theorem free_fbin {o : Oper} {a : Act} {K : Act → Prop} {op : BinOp} {t t' : TypeId} {l r : Operand} (hCn : ∀ w n, C w → C (w.drewN n)) (hop : o.op = .binOp op t l r t') (ho : arith op = true) (k : FloatKind) (x y : Nat)
    (hx : a.eval l = .float k x) (hy : a.eval r = .float k y)
    (h : ∀ z, cl k z = fop op k (cl k x) (cl k y) → (Lit.float k z).wf = true → K (a.put o.dst (.float k z))) : Free P T C o a K := by
  intro w hw
  obtain ⟨z, n, h1, h2, h3⟩ := run_fbin (P := P) w ho t k x y
  simp only [execOp, hop, hx, hy, Sem.run_bind, run_eqGuard ho, Result.andThen_ok, h1, Sem.run_pure]
  exact ⟨hCn _ _ hw, h z h2 h3⟩
end

/-! ### No table of contracts: a call's values are what every contract of a class of alike values says of them -/
inductive NV where
  | f (k : FloatKind) (d : Ieee.Datum) (wf : Bool)
  | o (v : Value)
  | t (l : List NV)
  | a (l : List NV)
def key0 (v : Value) : NV := match v with
  | .float k r => .f k (cl k r) (Lit.float k r).wf
  | v => .o v
def key1 (v : Value) : NV := match v with
  | .tuple vs => .t (vs.toList.map key0)
  | .agg vs => .a (vs.toList.map key0)
  | v => key0 v
def key2 (v : Value) : NV := match v with
  | .tuple vs => .t (vs.toList.map key1)
  | .agg vs => .a (vs.toList.map key1)
  | v => key0 v

theorem key0_f {v : Value} {k : FloatKind} {d : Ieee.Datum} {b : Bool} : key0 v = .f k d b ↔ ∃ r, v = .float k r ∧ cl k r = d ∧ (Lit.float k r).wf = b := by
  constructor
  · intro h
    unfold key0 at h
    split at h
    · injection h with h1 h2 h3
      subst h1
      exact ⟨_, rfl, h2, h3⟩
    · cases h
  · rintro ⟨r, rfl, rfl, rfl⟩
    rfl
theorem key1_f {v : Value} {k : FloatKind} {d : Ieee.Datum} {b : Bool} : key1 v = .f k d b ↔ ∃ r, v = .float k r ∧ cl k r = d ∧ (Lit.float k r).wf = b := by
  constructor
  · intro h
    unfold key1 at h
    split at h
    · cases h
    · cases h
    · exact key0_f.1 h
  · rintro ⟨r, rfl, rfl, rfl⟩
    rfl
theorem key2_f {v : Value} {k : FloatKind} {d : Ieee.Datum} {b : Bool} : key2 v = .f k d b ↔ ∃ r, v = .float k r ∧ cl k r = d ∧ (Lit.float k r).wf = b := by
  constructor
  · intro h
    unfold key2 at h
    split at h
    · cases h
    · cases h
    · exact key0_f.1 h
  · rintro ⟨r, rfl, rfl, rfl⟩
    rfl
/-- Neither a float nor made of parts. -/
def bare : Value → Bool
  | .float .. | .tuple .. | .agg .. => false
  | _ => true
theorem key0_o {v u : Value} (hu : bare u = true) : key0 v = .o u ↔ v = u := by
  constructor
  · intro h
    unfold key0 at h
    split at h
    · cases h
    · injection h
  · rintro rfl
    unfold key0
    split
    · cases hu
    · rfl
theorem key1_o {v u : Value} (hu : bare u = true) : key1 v = .o u ↔ v = u := by
  constructor
  · intro h
    unfold key1 at h
    split at h
    · cases h
    · cases h
    · exact (key0_o hu).1 h
  · rintro rfl
    unfold key1
    split
    · cases hu
    · cases hu
    · exact (key0_o hu).2 rfl
theorem key2_t {v : Value} {l : List NV} : key2 v = .t l ↔ ∃ vs, v = .tuple vs ∧ vs.toList.map key1 = l := by
  constructor
  · intro h
    unfold key2 at h
    split at h
    · injection h with h; exact ⟨_, rfl, h⟩
    · cases h
    · unfold key0 at h; split at h <;> cases h
  · rintro ⟨vs, rfl, rfl⟩
    rfl
theorem key2_a {v : Value} {l : List NV} : key2 v = .a l ↔ ∃ vs, v = .agg vs ∧ vs.toList.map key1 = l := by
  constructor
  · intro h
    unfold key2 at h
    split at h
    · cases h
    · injection h with h; exact ⟨_, rfl, h⟩
    · unfold key0 at h; split at h <;> cases h
  · rintro ⟨vs, rfl, rfl⟩
    rfl
theorem key1_a {v : Value} {l : List NV} : key1 v = .a l ↔ ∃ vs, v = .agg vs ∧ vs.toList.map key0 = l := by
  constructor
  · intro h
    unfold key1 at h
    split at h
    · cases h
    · injection h with h; exact ⟨_, rfl, h⟩
    · unfold key0 at h; split at h <;> cases h
  · rintro ⟨vs, rfl, rfl⟩
    rfl

/-- One value alone, or all values alike to one. -/
def clsV (V : Value → Prop) : Prop := (∃ u, ∀ v, V v ↔ v = u) ∨ ∃ κ, ∀ v, V v ↔ key2 v = κ

section
variable {P : Program} {C : World → Prop} {f : FuncId} {args : Array Value}
def ValidC (P : Program) (C : World → Prop) (f : FuncId) (args : Array Value) (V : Value → Prop) : Prop :=
  P.inits.idxOf? f = none ∧ ∀ w, C w → Calls P f args w fun e w'' => ∃ v, e = .returned v ∧ V v ∧ C w''
def tabC (P : Program) (C : World → Prop) (f : FuncId) (args : Array Value) (v : Value) : Prop := ∀ V, clsV V → ValidC P C f args V → V v

theorem calls_common {w : World} {V V' : Value → Prop} {C' : World → Prop} (hi : P.inits.idxOf? f = none) (h : Calls P f args w fun e w'' => ∃ v, e = .returned v ∧ V v ∧ C w'') (h' : Calls P f args w fun e w'' => ∃ v, e = .returned v ∧ V' v ∧ C' w'') :
    ∃ v, V v ∧ V' v := by
  obtain ⟨e, w1, fr, ⟨v, rfl, hv, _⟩, ⟨n, hn⟩, hf, hl⟩ := h []
  obtain ⟨e', w2, fr', ⟨v', rfl, hv', _⟩, ⟨m, hm⟩, hf', hl'⟩ := h' []
  have d1 := step_leave_done hl (by rw [hf]; exact hi)
  have d2 := step_leave_done hl' (by rw [hf']; exact hi)
  have key : ∀ (a b : Nat) (m0 m1 m2 : Machine) (o o' : Outcome) (wa wb : World), a ≤ b → runN P a m0 = .next m1 → step P m1 = .ended o wa → runN P b m0 = .next m2 → step P m2 = .ended o' wb → o = o' := by
    intro a b m0 m1 m2 o o' wa wb hab h1 s1 h2 s2
    obtain ⟨c, rfl⟩ := Nat.exists_eq_add_of_le hab
    rw [runN_add, h1] at h2
    cases c with
    | zero =>
      simp only [runN, Stepped.next.injEq] at h2
      subst h2
      rw [s1] at s2
      injection s2
    | succ c =>
      simp only [runN, s1] at h2
      cases h2
  have : (Outcome.done v) = .done v' := by
    rcases Nat.le_total n m with hnm | hnm
    · exact key n m _ _ _ _ _ _ _ hnm hn d1 hm d2
    · exact (key m n _ _ _ _ _ _ _ hnm hm d2 hn d1).symm
  injection this with this
  subst this
  exact ⟨v, hv, hv'⟩

theorem tabC_ok {V : Value → Prop} (hcl : clsV V) (hV : ValidC P C f args V) : ∀ w, C w → Calls P f args w fun e w'' => ∃ v, e = .returned v ∧ tabC P C f args v ∧ C w'' := by
  intro w hw
  by_cases hx : ∃ u, ValidC P C f args (· = u)
  · obtain ⟨u, hu⟩ := hx
    refine (hu.2 w hw).mono fun e w'' ⟨v, he, hv, hc⟩ => ⟨v, he, fun V' _ hV' => ?_, hc⟩
    obtain ⟨v', h1, h2⟩ := calls_common hu.1 (hu.2 w hw) (hV'.2 w hw)
    rw [hv, ← h1]
    exact h2
  · have no : ∀ V' : Value → Prop, ValidC P C f args V' → ¬ ∃ u, ∀ v, V' v ↔ v = u := by
      rintro V' hV' ⟨u, hu⟩
      exact hx ⟨u, hV'.1, fun w hw => (hV'.2 w hw).mono fun e w'' ⟨v, he, hv, hc⟩ => ⟨v, he, (hu v).1 hv, hc⟩⟩
    rcases hcl with h | ⟨κ, hκ⟩
    · exact absurd h (no V hV)
    · refine (hV.2 w hw).mono fun e w'' ⟨v, he, hv, hc⟩ => ⟨v, he, fun V' hc' hV' => ?_, hc⟩
      rcases hc' with h | ⟨κ', hκ'⟩
      · exact absurd h (no V' hV')
      · obtain ⟨v', h1, h2⟩ := calls_common hV.1 (hV.2 w hw) (hV'.2 w hw)
        rw [hκ', (hκ v).1 hv, ← (hκ v').1 h1]
        exact (hκ' v').1 h2

/-- A CALL IN A REGION, BY ITS CONTRACT. -/
theorem free_call {K : Value → Prop} (V : Value → Prop) (hcl : clsV V) (hi : P.inits.idxOf? f = none) (hc : ∀ w, C w → Calls P f args w fun e w'' => ∃ v, e = .returned v ∧ V v ∧ C w'') (hk : ∀ v, V v → K v) :
    (∀ w, C w → Calls P f args w fun e w'' => ∃ v, e = .returned v ∧ tabC P C f args v ∧ C w'') ∧ ∀ v, tabC P C f args v → K v :=
  ⟨tabC_ok hcl ⟨hi, hc⟩, fun v hv => hk v (hv V hcl ⟨hi, hc⟩)⟩
end

/-- Some word of a datum. -/
def IsF (d : Ieee.Datum) (v : Value) : Prop := ∃ r, v = .float .f32 r ∧ cl .f32 r = d ∧ (Lit.float .f32 r).wf = true
def IsD (d : Ieee.Datum) (v : Value) : Prop := ∃ r, v = .float .f64 r ∧ cl .f64 r = d ∧ (Lit.float .f64 r).wf = true
def IsFB (d : Ieee.Datum) (b : Bool) (v : Value) : Prop := ∃ r, v = .tuple #[.float .f32 r, .bool b] ∧ cl .f32 r = d ∧ (Lit.float .f32 r).wf = true
theorem cls_val (u : Value) : clsV (· = u) := .inl ⟨u, fun _ => Iff.rfl⟩
theorem cls_flt (d : Ieee.Datum) : clsV (IsF d) := .inr ⟨.f .f32 d true, fun _ => key2_f.symm⟩
theorem cls_dbl (d : Ieee.Datum) : clsV (IsD d) := .inr ⟨.f .f64 d true, fun _ => key2_f.symm⟩
theorem two_of {vs : Array Value} {p q : NV} (h : vs.toList.map key1 = [p, q]) : ∃ x y, vs = #[x, y] ∧ key1 x = p ∧ key1 y = q := by
  obtain ⟨l⟩ := vs
  match l, h with
  | [x, y], h =>
    simp at h
    exact ⟨x, y, rfl, h.1, h.2⟩
theorem cls_fltb (d : Ieee.Datum) (b : Bool) : clsV (IsFB d b) := by
  refine .inr ⟨.t [.f .f32 d true, .o (.bool b)], fun v => ?_⟩
  rw [key2_t]
  constructor
  · rintro ⟨r, rfl, rfl, hw⟩
    refine ⟨_, rfl, ?_⟩
    simp [key1, key0, hw]
  · rintro ⟨vs, rfl, h⟩
    obtain ⟨x, y, rfl, hx, hy⟩ := two_of h
    obtain ⟨r, rfl, h1, h2⟩ := key1_f.1 hx
    obtain rfl := (key1_o rfl).1 hy
    exact ⟨r, rfl, h1, h2⟩

section
variable {P : Program} {C : World → Prop} {f : FuncId} {args : Array Value} {K : Value → Prop}
theorem free_at (f : FuncId) (h : (∀ w, C w → Calls P f args w fun e w'' => ∃ v, e = .returned v ∧ tabC P C f args v ∧ C w'') ∧ ∀ v, tabC P C f args v → K v) :
    (∀ w, C w → Calls P f args w fun e w'' => ∃ v, e = .returned v ∧ tabC P C f args v ∧ C w'') ∧ ∀ v, tabC P C f args v → K v := h
theorem free_v (u : Value) (hi : P.inits.idxOf? f = none) (hc : ∀ w, C w → Calls P f args w fun e w'' => e = .returned u ∧ C w'') (hk : K u) :
    (∀ w, C w → Calls P f args w fun e w'' => ∃ v, e = .returned v ∧ tabC P C f args v ∧ C w'') ∧ ∀ v, tabC P C f args v → K v :=
  free_call (· = u) (cls_val u) hi (fun w hw => (hc w hw).mono fun _ _ ⟨he, h⟩ => ⟨u, he, rfl, h⟩) (fun _ h => h ▸ hk)
theorem free_f (d : Ieee.Datum) (hi : P.inits.idxOf? f = none) (hc : ∀ w, C w → Calls P f args w fun e w'' => ∃ r, e = .returned (.float .f32 r) ∧ cl .f32 r = d ∧ (Lit.float .f32 r).wf = true ∧ C w'') (hk : ∀ r, cl .f32 r = d → (Lit.float .f32 r).wf = true → K (.float .f32 r)) :
    (∀ w, C w → Calls P f args w fun e w'' => ∃ v, e = .returned v ∧ tabC P C f args v ∧ C w'') ∧ ∀ v, tabC P C f args v → K v :=
  free_call (IsF d) (cls_flt d) hi (fun w hw => (hc w hw).mono fun _ _ ⟨r, he, h1, h2, h⟩ => ⟨_, he, ⟨r, rfl, h1, h2⟩, h⟩) (fun _ ⟨r, e, h1, h2⟩ => e ▸ hk r h1 h2)
theorem free_d (d : Ieee.Datum) (hi : P.inits.idxOf? f = none) (hc : ∀ w, C w → Calls P f args w fun e w'' => ∃ r, e = .returned (.float .f64 r) ∧ cl .f64 r = d ∧ (Lit.float .f64 r).wf = true ∧ C w'') (hk : ∀ r, cl .f64 r = d → (Lit.float .f64 r).wf = true → K (.float .f64 r)) :
    (∀ w, C w → Calls P f args w fun e w'' => ∃ v, e = .returned v ∧ tabC P C f args v ∧ C w'') ∧ ∀ v, tabC P C f args v → K v :=
  free_call (IsD d) (cls_dbl d) hi (fun w hw => (hc w hw).mono fun _ _ ⟨r, he, h1, h2, h⟩ => ⟨_, he, ⟨r, rfl, h1, h2⟩, h⟩) (fun _ ⟨r, e, h1, h2⟩ => e ▸ hk r h1 h2)
theorem free_fb (d : Ieee.Datum) (b : Bool) (hi : P.inits.idxOf? f = none) (hc : ∀ w, C w → Calls P f args w fun e w'' => ∃ r, e = .returned (.tuple #[.float .f32 r, .bool b]) ∧ cl .f32 r = d ∧ (Lit.float .f32 r).wf = true ∧ C w'') (hk : ∀ r, cl .f32 r = d → (Lit.float .f32 r).wf = true → K (.tuple #[.float .f32 r, .bool b])) :
    (∀ w, C w → Calls P f args w fun e w'' => ∃ v, e = .returned v ∧ tabC P C f args v ∧ C w'') ∧ ∀ v, tabC P C f args v → K v :=
  free_call (IsFB d b) (cls_fltb d b) hi (fun w hw => (hc w hw).mono fun _ _ ⟨r, he, h1, h2, h⟩ => ⟨_, he, ⟨r, rfl, h1, h2⟩, h⟩) (fun _ ⟨r, e, h1, h2⟩ => e ▸ hk r h1 h2)

theorem wp_region_drawnC {id : Nat} {Q : Exit → Act → World → Prop} {a : Act} {w : World} {l : List Oper} (hm : P.follows .mixedOrders = true) (hB : Region.lexB .any l.toArray = true)
    (h : wpFree P (tabC P (Drawn w)) (Drawn w) l.toArray (fun a' => ∀ w', Drawn w w' → Q .normal a' w') l a) : (Code.region id l.toArray true).wp P Q a w := wp_region_drawn _ hm hB h
theorem wp_region_grewC {id : Nat} {Q : Exit → Act → World → Prop} {a : Act} {w : World} {l : List Oper} (hm : P.follows .mixedOrders = true) (hB : Region.lexB .any l.toArray = true)
    (h : wpFree P (tabC P (Grew w)) (Grew w) l.toArray (fun a' => ∀ w', Grew w w' → Q .normal a' w') l a) : (Code.region id l.toArray true).wp P Q a w := wp_region_grew _ hm hB h
end
end Go.Flt
