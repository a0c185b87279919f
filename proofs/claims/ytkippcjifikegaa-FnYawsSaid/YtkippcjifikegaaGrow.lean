/-
  A REGION THAT DRAWS ITS ORDER AND MAKES MEMORY: ONE WALK OF THE TEXT's ORDER SERVES EVERY ORDER; WHAT A CALL's VALUE IS GOOD FOR IS SAID OF THE WORLDS BEHIND IT.
-/
import Derived.Test.YtkippcjifikegaaFree
namespace Go.Flt
open Go
set_option linter.unusedVariables false

theorem grw_refl (w : World) : Grew w w := ⟨rfl, rfl, rfl, Nat.le_refl _, fun _ _ => rfl⟩
theorem grw_trans {a b c : World} (h : Grew a b) (k : Grew b c) : Grew a c := RowKit.Below.trans h (RowKit.Below.mono k (RowKit.Below.size h))
@[go_sem] theorem grw_self (w : World) : Grew w w = True := by simp only [eq_iff_iff, iff_true]; exact grw_refl w
@[go_sem] theorem grw_alloc (w : World) (o : Obj) : Grew w (w.alloc o) = True := by
  simp only [eq_iff_iff, iff_true]
  exact RowKit.Below.alloc (RowKit.Below.refl _ _) (Nat.le_refl _) o

section
variable (P : Program) (md : Region.Mode) (ops : Array Oper) (D : List Tmp) (F : List (Tmp × (Value → World → World → Prop))) (w0 : World)

/-- A call's values where nothing is told of its slot: what every contract of a class of alike values says of them. -/
def ValidR (f : FuncId) (args : Array Value) (V : Value → Prop) : Prop :=
  P.inits.idxOf? f = none ∧ ∀ w, Grew w0 w → Calls P f args w fun e w'' => ∃ v, e = .returned v ∧ V v ∧ Grew w w''
def tabR (f : FuncId) (args : Array Value) (v : Value) : Prop := ∀ V, clsV V → ValidR P w0 f args V → V v

/-- What is told of a slot. -/
def tabF : List (Tmp × (Value → World → World → Prop)) → Tmp → Option (Value → World → World → Prop)
  | [], _ => none
  | (e, f) :: l, d => if d == e then some f else tabF l d
def told (d : Option Tmp) : Option (Value → World → World → Prop) := d.bind (tabF F)
/-- What a call's value must be. -/
def OfCall (d : Option Tmp) (f : FuncId) (args : Array Value) (v : Value) (wb w : World) : Prop := match told F d with
  | some p => p v wb w
  | none => tabR P w0 f args v
def OfOp (d : Option Tmp) (v : Value) (wb w : World) : Prop := match told F d with
  | some p => p v wb w
  | none => True
/-- What lasts: a told slot's value, or none yet. -/
def Lasts (d : Tmp) (u : Value) (w' : World) : Prop := u = undef ∨ ∃ wb w3, Grew w0 wb ∧ Grew wb w3 ∧ Grew w3 w' ∧ OfOp F (some d) u wb w3

/-- All told slots' values, each born between two worlds, no two at once. -/
def AllBorn (S : Tmp → Prop) (val : Tmp → Value) (w' : World) : Prop := ∃ B E : Tmp → World,
  (∀ d, S d → Grew w0 (B d) ∧ Grew (B d) (E d) ∧ Grew (E d) w' ∧ (val d = undef ∨ OfOp F (some d) (val d) (B d) (E d))) ∧
  ∀ d d', S d → S d' → d ≠ d' → (E d).heap.size ≤ (B d').heap.size ∨ (E d').heap.size ≤ (B d).heap.size

def Listed (listed : Array Bool) (d : Tmp) : Prop := d ∈ D ∧ ∃ i oi, ops[i]? = some oi ∧ oi.dst = some d ∧ listed.getD i false = true
def Inv (listed : Array Bool) (a : Act) (w' : World) : Prop := Grew w0 w' ∧ AllBorn F w0 (Listed ops D listed) (fun d => a.tmps.getD d undef) w'
def Prem (o : Oper) (a : Act) (w' : World) : Prop := ∀ d, d ∈ D → d ∈ o.looksAt ops → Lasts F w0 d (a.tmps.getD d undef) w'

def upG (o : Oper) (N : Value → Prop) (w' : World) : Result Next → Prop
  | .ok (.value u) w2 => Grew w' w2 ∧ OfOp F o.dst u w' w2 ∧ N u
  | .ok .skip w2 => Grew w' w2 ∧ N undef
  | .ok (.enter f args) w2 => Grew w' w2 ∧ (Calls P f args w2 fun e w3 => ∃ v, e = .returned v ∧ OfCall P F w0 o.dst f args v w2 w3 ∧ Grew w2 w3) ∧ ∀ v w3, Grew w0 w3 → OfCall P F w0 o.dst f args v w2 w3 → N v
  | _ => False

def GG (o : Oper) (a : Act) (next : Act → Prop) : Prop :=
  ∀ w', Grew w0 w' → Prem ops D F w0 o a w' → upG P F w0 o (fun v => next (a.put o.dst v)) w' ((execOp a.eval o).run P w')

def wpG (Q : Act → Prop) : List Oper → Act → Prop
  | [], a => Q a
  | o :: rest, a => if Region.wanted o (yielded ops a.tmps) then GG P ops D F w0 o a (wpG Q rest) else wpG Q rest (a.put o.dst undef)

def gOut (d : Option Tmp) (v : Value) : Result Next → Prop
  | .ok (.value u) _ => v = u
  | .ok .skip _ => v = undef
  | .ok (.enter f args) w2 => ∃ w3, Grew w0 w3 ∧ OfCall P F w0 d f args v w2 w3
  | _ => False

def GGoes (o : Oper) (a : Act) : Prop := Region.wanted o (yielded ops a.tmps) = true → GG P ops D F w0 o a (fun _ => True)
def GGives (o : Oper) (a : Act) (v : Value) : Prop :=
  (Region.wanted o (yielded ops a.tmps) = true ∧ ∃ w', Grew w0 w' ∧ Prem ops D F w0 o a w' ∧ gOut P F w0 o.dst v ((execOp a.eval o).run P w')) ∨ (Region.wanted o (yielded ops a.tmps) = false ∧ v = undef)

def gOp (i : Nat) (K : Act → Prop) (a : Act) : Prop :=
  match ops[i]? with
  | none => K a
  | some o => GGoes P ops D F w0 o a ∧ ∀ v, GGives P ops D F w0 o a v → K (a.put o.dst v)

def wpAnyG (Q : Array Bool → Act → Prop) : Nat → Array Bool → Act → Prop
  | 0, listed, a => (∃ w', Inv ops D F w0 listed a w') → Region.ready md ops listed = [] ∧ Q listed a
  | fuel + 1, listed, a => (∃ w', Inv ops D F w0 listed a w') →
    (Region.ready md ops listed = [] → Q listed a) ∧
    ∀ i ∈ Region.ready md ops listed, gOp P ops D F w0 i (wpAnyG Q fuel (listed.setIfInBounds i true)) a

/-- The told slots: each is made by one operation alone, and whoever looks at it comes behind that. -/
def toldB : Bool := D.all fun d => (List.range ops.size).all fun i => match ops[i]? with
  | some oi => oi.dst != some d || (List.range ops.size).all fun j => match ops[j]? with
    | some oj => j == i || (oj.dst != some d && (!(oj.looksAt ops).contains d || oj.after.any fun e => Region.binds md e && e.on == i))
    | none => true
  | none => true

/-- Each told slot is made in the region; no operation looks at the slot that it makes. -/
def madeB : Bool := (D.all fun d => ops.any fun o => o.dst == some d) && ops.all fun o => match o.dst with
  | some d => !(o.looksAt ops).contains d
  | none => true
end

section
variable {P : Program} {md : Region.Mode} {ops : Array Oper} {D : List Tmp} {F : List (Tmp × (Value → World → World → Prop))} {w0 : World}

theorem toldB_spec (h : toldB md ops D = true) {d : Tmp} (hd : d ∈ D) {i : Nat} {oi : Oper} (hi : ops[i]? = some oi) (hid : oi.dst = some d) {j : Nat} {oj : Oper} (hj : ops[j]? = some oj) (hne : j ≠ i) :
    oj.dst ≠ some d ∧ (d ∈ oj.looksAt ops → ∃ e ∈ oj.after, Region.binds md e = true ∧ e.on = i) := by
  unfold toldB at h
  have h1 := List.all_eq_true.1 h d hd
  have h2 := List.all_eq_true.1 h1 i (List.mem_range.2 (Array.getElem?_eq_some_iff.1 hi).1)
  simp only [hi, hid, bne_self_eq_false, Bool.false_or] at h2
  have h3 := List.all_eq_true.1 h2 j (List.mem_range.2 (Array.getElem?_eq_some_iff.1 hj).1)
  simp only [hj, Bool.or_eq_true, beq_iff_eq, hne, false_or, Bool.and_eq_true, bne_iff_ne, Bool.not_eq_true'] at h3
  refine ⟨h3.1, fun hl => ?_⟩
  rcases h3.2 with h4 | h4
  · rw [List.contains_eq_mem] at h4
    simp [hl] at h4
  · obtain ⟨e, he, hb⟩ := Array.any_eq_true'.1 h4
    simp only [Bool.and_eq_true, beq_iff_eq] at hb
    exact ⟨e, he, hb⟩

theorem madeB_spec (h : madeB ops D = true) {d : Tmp} (hd : d ∈ D) : ∃ (i : Nat) (oi : Oper), ops[i]? = some oi ∧ oi.dst = some d := by
  unfold madeB at h
  simp only [Bool.and_eq_true] at h
  have h1 := List.all_eq_true.1 h.1 d hd
  obtain ⟨o, ho, hb⟩ := Array.any_eq_true'.1 h1
  obtain ⟨i, hi, rfl⟩ := Array.getElem_of_mem ho
  exact ⟨i, _, Array.getElem?_eq_getElem hi, by simpa using hb⟩

theorem madeB_self (h : madeB ops D = true) {i : Nat} {o : Oper} (hi : ops[i]? = some o) {d : Tmp} (hd : o.dst = some d) : d ∉ o.looksAt ops := by
  unfold madeB at h
  simp only [Bool.and_eq_true] at h
  have := Array.all_eq_true_iff_forall_mem.1 h.2 o (Array.mem_of_getElem? hi)
  simp only [hd, Bool.not_eq_true', List.contains_eq_mem] at this
  simpa using this

theorem Lasts.grew {d : Tmp} {u : Value} {w' w'' : World} (h : Lasts F w0 d u w') (hg : Grew w' w'') : Lasts F w0 d u w'' := by
  rcases h with h | ⟨wb, w3, h0, h1, h2, h3⟩
  · exact .inl h
  · exact .inr ⟨wb, w3, h0, h1, grw_trans h2 hg, h3⟩

theorem put_other {a : Act} {e : Option Tmp} {d : Tmp} {v : Value} (h : e ≠ some d) : (a.put e v).tmps.getD d undef = a.tmps.getD d undef := by
  cases e with
  | none => rfl
  | some e =>
    have : e ≠ d := fun x => h (by rw [x])
    simp [Act.put, Array.getElem?_setIfInBounds_ne this]

theorem put_own {a : Act} {d : Tmp} {v : Value} : (a.put (some d) v).tmps.getD d undef = v ∨ (a.put (some d) v).tmps.getD d undef = undef := by
  simp only [Act.put]
  by_cases h : d < a.tmps.size
  · left; simp [h]
  · right
    simp only [Array.getD_eq_getD_getElem?]
    have hle : (a.tmps.setIfInBounds d v).size ≤ d := by
      rw [Array.size_setIfInBounds]
      exact Nat.le_of_not_lt h
    rw [Array.getElem?_eq_none hle]
    rfl

/-- An operation that is apart from op j's slot: what op o looks at is as it was. -/
theorem Prem.put {o : Oper} {a : Act} {e : Option Tmp} {v : Value} {w' : World} (h : ∀ d, e = some d → d ∉ o.looksAt ops) : Prem ops D F w0 o (a.put e v) w' ↔ Prem ops D F w0 o a w' := by
  unfold Prem
  constructor <;> intro H d hd hl <;> have := H d hd hl
  · rwa [put_other (fun x => h d x hl)] at this
  · rwa [put_other (fun x => h d x hl)]

theorem GGoes.put {oi oj : Oper} {a : Act} {v : Value} (hap : oi.apart ops oj = true) (hsj : ∀ cs b, oj.op ≠ .select cs b) : GGoes P ops D F w0 oj (a.put oi.dst v) ↔ GGoes P ops D F w0 oj a := by
  obtain ⟨h1, h2, h3⟩ := Oper.apart_spec hap
  unfold GGoes GG
  rw [wanted_put oj a oi.dst v h1, execOp_put oj hsj a oi.dst v h1]
  simp only [Prem.put h1]

theorem GGives.put {oi oj : Oper} {a : Act} {v u : Value} (hap : oi.apart ops oj = true) (hsj : ∀ cs b, oj.op ≠ .select cs b) : GGives P ops D F w0 oj (a.put oi.dst v) u ↔ GGives P ops D F w0 oj a u := by
  obtain ⟨h1, h2, h3⟩ := Oper.apart_spec hap
  unfold GGives
  rw [wanted_put oj a oi.dst v h1, execOp_put oj hsj a oi.dst v h1]
  simp only [Prem.put h1]

theorem GGoes.put' {oi oj : Oper} {a : Act} {u : Value} (hap : oi.apart ops oj = true) (hsi : ∀ cs b, oi.op ≠ .select cs b) : GGoes P ops D F w0 oi (a.put oj.dst u) ↔ GGoes P ops D F w0 oi a := by
  obtain ⟨h1, h2, h3⟩ := Oper.apart_spec hap
  unfold GGoes GG
  rw [wanted_put oi a oj.dst u h3, execOp_put oi hsi a oj.dst u h3]
  simp only [Prem.put h3]

theorem GGives.put' {oi oj : Oper} {a : Act} {u v : Value} (hap : oi.apart ops oj = true) (hsi : ∀ cs b, oi.op ≠ .select cs b) : GGives P ops D F w0 oi (a.put oj.dst u) v ↔ GGives P ops D F w0 oi a v := by
  obtain ⟨h1, h2, h3⟩ := Oper.apart_spec hap
  unfold GGives
  rw [wanted_put oi a oj.dst u h3, execOp_put oi hsi a oj.dst u h3]
  simp only [Prem.put h3]

theorem upG_iff {o : Oper} {N : Value → Prop} {w' : World} {r : Result Next} : upG P F w0 o N w' r ↔ upG P F w0 o (fun _ => True) w' r ∧ ∀ v, gOut P F w0 o.dst v r → N v := by
  cases r with
  | halt h w => simp [upG]
  | ok n w =>
    cases n <;> simp only [upG, gOut, false_and, iff_self]
    case value u => exact ⟨fun h => ⟨⟨h.1, h.2.1, trivial⟩, fun v e => by rw [e]; exact h.2.2⟩, fun h => ⟨h.1.1, h.1.2.1, h.2 _ rfl⟩⟩
    case skip => exact ⟨fun h => ⟨⟨h.1, trivial⟩, fun v e => by rw [e]; exact h.2⟩, fun h => ⟨h.1.1, h.2 _ rfl⟩⟩
    case enter f args => exact ⟨fun h => ⟨⟨h.1, h.2.1, fun _ _ _ _ => trivial⟩, fun v ⟨w3, h1, h2⟩ => h.2.2 v w3 h1 h2⟩, fun h => ⟨h.1.1, h.1.2.1, fun v w3 h1 h2 => h.2 v ⟨w3, h1, h2⟩⟩⟩

theorem gOp_of_walk {i : Nat} {o : Oper} {a : Act} {K : Act → Prop} (hi : ops[i]? = some o)
    (h : if Region.wanted o (yielded ops a.tmps) then GG P ops D F w0 o a K else K (a.put o.dst undef)) : gOp P ops D F w0 i K a := by
  unfold gOp
  simp only [hi]
  by_cases hw : Region.wanted o (yielded ops a.tmps) = true
  · rw [if_pos hw] at h
    refine ⟨fun _ w hc hp => (upG_iff.1 (h w hc hp)).1, fun v hv => ?_⟩
    rcases hv with ⟨_, w, hc, hp, hv⟩ | ⟨h0, _⟩
    · exact (upG_iff.1 (h w hc hp)).2 v hv
    · rw [hw] at h0; cases h0
  · rw [if_neg hw] at h
    refine ⟨fun h0 => absurd h0 hw, fun v hv => ?_⟩
    rcases hv with ⟨h0, _⟩ | ⟨_, rfl⟩
    · exact absurd h0 hw
    · exact h

/-- A ready operation's premises hold where the invariant does. -/
theorem Inv.prem (ht : toldB md ops D = true) {listed : Array Bool} {a : Act} {w' : World} (h : Inv ops D F w0 listed a w') {j : Nat} {oj : Oper} (hj : ops[j]? = some oj) (hr : j ∈ Region.ready md ops listed) (hm : madeB ops D = true) : Prem ops D F w0 oj a w' := by
  intro d hd hl
  obtain ⟨i, oi, hi, hid⟩ := madeB_spec hm hd
  by_cases hji : j = i
  · subst hji
    rw [hi] at hj
    injection hj with hj
    subst hj
    exact absurd hl (madeB_self hm hi hid)
  · obtain ⟨e, he, hb, hon⟩ := (toldB_spec ht hd hi hid hj hji).2 hl
    obtain ⟨_, o', ho', hall⟩ := mem_ready.1 hr
    rw [hj] at ho'
    injection ho' with ho'
    subst ho'
    have := hall e he hb
    rw [hon] at this
    obtain ⟨_, B, E, hB, _⟩ := h
    obtain ⟨h1, h2, h3, h4⟩ := hB d ⟨hd, i, oi, hi, hid, this⟩
    exact h4.imp id fun h4 => ⟨_, _, h1, h2, h3, h4⟩

/-- One more operation has run. -/
theorem Inv.step (ht : toldB md ops D = true) {listed : Array Bool} {a : Act} {w' wb w'' : World} (h : Inv ops D F w0 listed a w') {j : Nat} {oj : Oper} (hj : ops[j]? = some oj) (hgb : Grew w' wb) (hg : Grew wb w'') {v : Value} (hv : v = undef ∨ OfOp F oj.dst v wb w'') :
    Inv ops D F w0 (listed.setIfInBounds j true) (a.put oj.dst v) w'' := by
  obtain ⟨h0, B, E, hB, hA⟩ := h
  have hgs := grw_trans hgb hg
  have hg0 := grw_trans h0 hgs
  have old : ∀ d, Listed ops D (listed.setIfInBounds j true) d → oj.dst ≠ some d → Listed ops D listed d := by
    rintro d ⟨hd, i, oi, hi, hid, hl⟩ hne
    refine ⟨hd, i, oi, hi, hid, ?_⟩
    have hij : i ≠ j := by
      rintro rfl
      rw [hi] at hj
      injection hj with hj
      subst hj
      exact hne hid
    rw [← getD_set_ne false (Ne.symm hij)]
    exact hl
  refine ⟨hg0, fun d => if oj.dst = some d then wb else B d, fun d => if oj.dst = some d then w'' else E d, fun d hd => ?_, fun d d' hd hd' hne => ?_⟩
  · by_cases hdj : oj.dst = some d
    · simp only [hdj, if_true]
      refine ⟨grw_trans h0 hgb, hg, grw_refl _, ?_⟩
      rw [hdj] at hv
      rcases put_own (a := a) (d := d) (v := v) with e | e
      · rw [e]; exact hv
      · rw [e]; exact .inl rfl
    · simp only [if_neg hdj]
      rw [put_other hdj]
      obtain ⟨h1, h2, h3, h4⟩ := hB d (old d hd hdj)
      exact ⟨h1, h2, grw_trans h3 hgs, h4⟩
  · have below : ∀ d, Listed ops D (listed.setIfInBounds j true) d → oj.dst ≠ some d → (E d).heap.size ≤ wb.heap.size := fun d hd hdj =>
      Nat.le_trans (RowKit.Below.size (hB d (old d hd hdj)).2.2.1) (RowKit.Below.size hgb)
    by_cases h1 : oj.dst = some d
    · by_cases h2 : oj.dst = some d'
      · rw [h1] at h2
        injection h2 with h2
        exact absurd h2 hne
      · simp only [if_pos h1, if_neg h2]
        exact .inr (below d' hd' h2)
    · by_cases h2 : oj.dst = some d'
      · simp only [if_neg h1, if_pos h2]
        exact .inl (below d hd h1)
      · simp only [if_neg h1, if_neg h2]
        exact hA d d' (old d hd h1) (old d' hd' h2) hne

/-- One operation fewer. -/
theorem Inv.back (ht : toldB md ops D = true) {listed : Array Bool} {a : Act} {w' : World} {j : Nat} {oj : Oper} (hj : ops[j]? = some oj) (hun : listed.getD j true = false) {v : Value} (h : Inv ops D F w0 (listed.setIfInBounds j true) (a.put oj.dst v) w') : Inv ops D F w0 listed a w' := by
  obtain ⟨h0, B, E, hB, hA⟩ := h
  have up : ∀ d, Listed ops D listed d → Listed ops D (listed.setIfInBounds j true) d ∧ oj.dst ≠ some d := by
    rintro d ⟨hd, i, oi, hi, hid, hl⟩
    have hij : i ≠ j := by
      rintro rfl
      rcases Nat.lt_or_ge i listed.size with h' | h'
      · simp [h'] at hun hl; rw [hun] at hl; cases hl
      · simp [Array.getElem?_eq_none h'] at hl
    exact ⟨⟨hd, i, oi, hi, hid, by rw [getD_set_ne false (Ne.symm hij)]; exact hl⟩, (toldB_spec ht hd hi hid hj (Ne.symm hij)).1⟩
  refine ⟨h0, B, E, fun d hd => ?_, fun d d' hd hd' hne => hA d d' (up d hd).1 (up d' hd').1 hne⟩
  obtain ⟨h1, h2, h3, h4⟩ := hB d (up d hd).1
  simp only [put_other (up d hd).2] at h4
  exact ⟨h1, h2, h3, h4⟩

theorem gives_live {o : Oper} {a : Act} {w' : World} (h : GGoes P ops D F w0 o a) (hg : Grew w0 w') (hp : Prem ops D F w0 o a w') :
    ∃ v wb w'', GGives P ops D F w0 o a v ∧ Grew w' wb ∧ Grew wb w'' ∧ (v = undef ∨ OfOp F o.dst v wb w'') := by
  by_cases hw : Region.wanted o (yielded ops a.tmps) = true
  · have h1 := h hw w' hg hp
    suffices hh : ∃ v wb w'', gOut P F w0 o.dst v ((execOp a.eval o).run P w') ∧ Grew w' wb ∧ Grew wb w'' ∧ (v = undef ∨ OfOp F o.dst v wb w'') by
      obtain ⟨v, wb, w'', h2, h3⟩ := hh
      exact ⟨v, wb, w'', .inl ⟨hw, w', hg, hp, h2⟩, h3⟩
    generalize (execOp a.eval o).run P w' = r at *
    cases r with
    | halt x w' => simp only [upG] at h1
    | ok n w2 =>
      cases n <;> simp only [upG] at h1 <;> simp only [gOut]
      case value u => exact ⟨u, w', w2, rfl, grw_refl _, h1.1, .inr h1.2.1⟩
      case skip => exact ⟨undef, w', w2, rfl, grw_refl _, h1.1, .inl rfl⟩
      case enter f args =>
        obtain ⟨e, w3, fr, ⟨v, _, hv, hgr⟩, _⟩ := h1.2.1 []
        refine ⟨v, w2, w3, ⟨w3, grw_trans hg (grw_trans h1.1 hgr), hv⟩, h1.1, hgr, ?_⟩
        right
        unfold OfCall at hv
        unfold OfOp
        split at hv <;> simp only [*]
  · exact ⟨undef, w', w', .inr ⟨by simpa using hw, rfl⟩, grw_refl _, grw_refl _, .inl rfl⟩

theorem ofOp_of_call {d : Option Tmp} {f : FuncId} {args : Array Value} {v : Value} {wb w : World} (h : OfCall P F w0 d f args v wb w) : OfOp F d v wb w := by
  unfold OfCall at h
  unfold OfOp
  split at h <;> simp only [*]

theorem wpOp_of_gOp {i : Nat} {oi : Oper} {a : Act} {K : Act → Prop} {K' : Act → World → Prop} {Q' : Exit → Act → World → Prop} {w : World} (hi : ops[i]? = some oi) (hg : Grew w0 w) (hp : Prem ops D F w0 oi a w)
    (h : ∀ v wb w', Grew w wb → Grew wb w' → (v = undef ∨ OfOp F oi.dst v wb w') → K (a.put oi.dst v) → K' (a.put oi.dst v) w') (hh : gOp P ops D F w0 i K a) : wpOp P ops Q' i K' a w := by
  unfold gOp at hh
  unfold wpOp
  simp only [hi] at hh ⊢
  obtain ⟨h1, h2⟩ := hh
  split
  · rename_i hw
    refine .inl ?_
    have h3 := h1 hw w hg hp
    have h4 : ∀ v, gOut P F w0 oi.dst v ((execOp a.eval oi).run P w) → K (a.put oi.dst v) := fun v hv => h2 v (.inl ⟨hw, w, hg, hp, hv⟩)
    unfold Oper.wp
    generalize (execOp a.eval oi).run P w = r at *
    cases r with
    | halt x w' => simp only [upG] at h3
    | ok n w' =>
      cases n <;> simp only [upG] at h3 <;> simp only [Oper.upon]
      case value u => exact h u w w' (grw_refl _) h3.1 (.inr h3.2.1) (h4 _ rfl)
      case skip => exact h undef w w' (grw_refl _) h3.1 (.inl rfl) (h4 _ rfl)
      case enter f args => exact h3.2.1.mono fun e w'' ⟨v, he, hv, hgr⟩ => by subst he; exact h v w' w'' h3.1 hgr (.inr (ofOp_of_call hv)) (h4 _ ⟨w'', grw_trans hg (grw_trans h3.1 hgr), hv⟩)
  · rename_i hw; exact h undef w w (grw_refl _) (grw_refl _) (.inl rfl) (h2 _ (.inr ⟨by simpa using hw, rfl⟩))

theorem wpAny_of_grow (ht : toldB md ops D = true) (hm : madeB ops D = true) {Q : Array Bool → Act → Prop} {Q' : Exit → Act → World → Prop} (hQ : ∀ listed a w, Inv ops D F w0 listed a w → Q listed a → Q' .normal a w) :
    ∀ (fuel : Nat) (listed : Array Bool) (a : Act) (w : World), Inv ops D F w0 listed a w → wpAnyG P md ops D F w0 Q fuel listed a → wpAny P md ops Q' fuel listed a w
  | 0, _, _, _, hw, h => ⟨(h ⟨_, hw⟩).1, hQ _ _ _ hw (h ⟨_, hw⟩).2⟩
  | fuel + 1, listed, a, w, hw, h => ⟨fun h0 => hQ _ _ _ hw ((h ⟨_, hw⟩).1 h0), fun i hi => by
      obtain ⟨_, oi, hoi, _⟩ := mem_ready.1 hi
      exact wpOp_of_gOp hoi hw.1 (hw.prem ht hoi hi hm) (fun v wb w' hgb hg hv hk => wpAny_of_grow ht hm hQ fuel _ _ w' (hw.step ht hoi hgb hg hv) hk) ((h ⟨_, hw⟩).2 i hi)⟩

theorem wpAnyG_first (ht : toldB md ops D = true) (hm : madeB ops D = true) {Q : Array Bool → Act → Prop} {i : Nat} {oi : Oper} (hi : ops[i]? = some oi) (hsel : ∀ (j : Nat) (o : Oper) cs b, ops[j]? = some o → o.op ≠ .select cs b) :
    ∀ (fuel : Nat) (listed : Array Bool) (a : Act),
      (∀ j oj, ops[j]? = some oj → j ≠ i → listed.getD j true = false → (∀ e ∈ oj.after, Region.binds md e = true → e.on ≠ i) → oi.apart ops oj = true) →
      i ∈ Region.ready md ops listed → GGoes P ops D F w0 oi a →
      (∀ v, GGives P ops D F w0 oi a v → wpAnyG P md ops D F w0 Q fuel (listed.setIfInBounds i true) (a.put oi.dst v)) → wpAnyG P md ops D F w0 Q (fuel + 1) listed a := by
  intro fuel
  induction fuel with
  | zero =>
    intro listed a _ hr hy H ⟨w', live⟩
    refine ⟨fun h => (by rw [h] at hr; cases hr), fun j hj => ?_⟩
    by_cases hji : j = i
    · subst hji; unfold gOp; simp only [hi]; exact ⟨hy, H⟩
    · have := ready_mono hj hji
      obtain ⟨v0, wb, w'', hv0, hgb, hg, hof⟩ := gives_live hy live.1 (live.prem ht hi hr hm)
      rw [(H v0 hv0 ⟨w'', live.step ht hi hgb hg hof⟩).1] at this
      cases this
  | succ fuel ih =>
    intro listed a hfree hr hy H ⟨w', live⟩
    refine ⟨fun h => (by rw [h] at hr; cases hr), fun j hj => ?_⟩
    by_cases hji : j = i
    · subst hji; unfold gOp; simp only [hi]; exact ⟨hy, H⟩
    · obtain ⟨v0, wb, w'', hv0, hgb, hg, hof⟩ := gives_live hy live.1 (live.prem ht hi hr hm)
      obtain ⟨hjun, oj, hoj, hall⟩ := mem_ready.1 hj
      have hnot : ∀ e ∈ oj.after, Region.binds md e = true → e.on ≠ i := fun e he hb heq => by
        have h1 := hall e he hb
        have h0 := (mem_ready.1 hr).1
        rw [heq] at h1
        rcases Nat.lt_or_ge i listed.size with h' | h'
        · simp [h'] at h0 h1; rw [h0] at h1; cases h1
        · simp [Array.getElem?_eq_none h'] at h1
      have hap := hfree j oj hoj hji hjun hnot
      have hsi := fun cs b => hsel i oi cs b hi
      have hsj := fun cs b => hsel j oj cs b hoj
      have hfree' : ∀ k ok, ops[k]? = some ok → k ≠ i → (listed.setIfInBounds j true).getD k true = false →
          (∀ e ∈ ok.after, Region.binds md e = true → e.on ≠ i) → oi.apart ops ok = true := fun k ok hk hki hun hno => by
        refine hfree k ok hk hki ?_ hno
        by_cases hjk : j = k
        · subst hjk; exact hjun
        · rw [getD_set_ne true hjk] at hun; exact hun
      have h1 := (H v0 hv0 ⟨w'', live.step ht hi hgb hg hof⟩).2 j (ready_mono hj hji)
      unfold gOp at h1 ⊢
      simp only [hoj] at h1 ⊢
      refine ⟨(GGoes.put hap hsj).1 h1.1, fun u hu => ?_⟩
      refine ih (listed.setIfInBounds j true) (a.put oj.dst u) hfree' (ready_mono hr (Ne.symm hji)) ((GGoes.put' hap hsi).2 hy) fun v hv => ?_
      have hv' := (GGives.put' hap hsi).1 hv
      rw [Array.setIfInBounds_comm _ _ hji]
      have hcm := Act.put_comm a v u (Oper.apart_spec hap).2.1
      rw [← hcm]
      have hjun' : (listed.setIfInBounds i true).getD j true = false := by rw [getD_set_ne true (Ne.symm hji)]; exact hjun
      have main : (∃ w, Inv ops D F w0 ((listed.setIfInBounds i true).setIfInBounds j true) ((a.put oi.dst v).put oj.dst u) w) → wpAnyG P md ops D F w0 Q fuel ((listed.setIfInBounds i true).setIfInBounds j true) ((a.put oi.dst v).put oj.dst u) := by
        rintro ⟨w4, l4⟩
        have h2 := (H v hv' ⟨w4, l4.back ht hoj hjun'⟩).2 j (ready_mono hj hji)
        unfold gOp at h2
        simp only [hoj] at h2
        exact h2.2 u ((GGives.put hap hsj).2 hu)
      cases fuel with
      | zero => exact fun l => main l l
      | succ fuel => exact fun l => main l l

theorem wpAnyG_lex (ht : toldB md ops D = true) (hm : madeB ops D = true) {Q : Array Bool → Act → Prop} {Q0 : Act → Prop} (hs : Region.noSelect ops = true) (hQ : ∀ listed a, (∀ i, i < ops.size → listed.getD i false = true) → Q0 a → Q listed a) : ∀ (l : List Oper) (k : Nat) (listed : Array Bool) (a : Act), (∀ j, l[j]? = ops[k + j]?) →
    (∀ i, i < k → i < ops.size → listed.getD i false = true) → listed.size = ops.size → Region.lexFrom md ops l.length k listed = true → wpG P ops D F w0 Q0 l a → wpAnyG P md ops D F w0 Q l.length listed a
  | [], k, listed, a, hl, hd, _, hB, h => fun _ => ⟨by simpa [Region.lexFrom] using hB, hQ listed a (fun i hi => hd i (by
      have := hl 0
      simp at this
      omega) hi) h⟩
  | o :: l, k, listed, a, hl, hd, hsz, hB, h => by
    have h0 : ops[k]? = some o := by simpa using (hl 0).symm
    have hk : k < ops.size := (Array.getElem?_eq_some_iff.1 h0).1
    simp only [List.length_cons, Region.lexFrom, Bool.and_eq_true] at hB
    obtain ⟨⟨hr, hf⟩, hB'⟩ := hB
    have hst : gOp P ops D F w0 k (wpG P ops D F w0 Q0 l) a := gOp_of_walk h0 h
    unfold gOp at hst
    simp only [h0] at hst
    exact wpAnyG_first ht hm h0 (Region.noSelect_spec hs) l.length listed a (Region.free_spec h0 hf) (by simpa using hr) hst.1 fun v hv =>
      wpAnyG_lex ht hm hs hQ l (k + 1) _ _ (fun j => by have := hl (j + 1); simpa [Nat.add_assoc, Nat.add_comm 1 j] using this) (fun i h1 h2 => by
        by_cases hik : i = k
        · subst hik; simp [hsz, h2]
        · rw [getD_set_ne false (Ne.symm hik)]; exact hd i (by omega) h2) (by simpa using hsz) hB' (hst.2 v hv)

/-- What lasts to the region's end. -/
def AllLast (D : List Tmp) (F : List (Tmp × (Value → World → World → Prop))) (w0 : World) (a : Act) (w' : World) : Prop := ∀ d ∈ D, Lasts F w0 d (a.tmps.getD d undef) w'
def AllApart (D : List Tmp) (F : List (Tmp × (Value → World → World → Prop))) (w0 : World) (a : Act) (w' : World) : Prop := AllBorn F w0 (· ∈ D) (fun d => a.tmps.getD d undef) w'

theorem AllApart.last {a : Act} {w' : World} (h : AllApart D F w0 a w') : AllLast D F w0 a w' := fun d hd => by
  obtain ⟨B, E, hB, _⟩ := h
  obtain ⟨h1, h2, h3, h4⟩ := hB d hd
  exact h4.imp id fun h4 => ⟨_, _, h1, h2, h3, h4⟩

theorem Inv.apart (hm : madeB ops D = true) {listed : Array Bool} {a : Act} {w' : World} (h : Inv ops D F w0 listed a w') (hall : ∀ i oi d, ops[i]? = some oi → oi.dst = some d → d ∈ D → listed.getD i false = true) : AllApart D F w0 a w' := by
  obtain ⟨_, B, E, hB, hA⟩ := h
  have up : ∀ d, d ∈ D → Listed ops D listed d := fun d hd => by
    obtain ⟨i, oi, h1, h2⟩ := madeB_spec hm hd
    exact ⟨hd, i, oi, h1, h2, hall i oi d h1 h2 hd⟩
  exact ⟨B, E, fun d hd => hB d (up d hd), fun d d' hd hd' hne => hA d d' (up d hd) (up d' hd') hne⟩

/-- **ONE WALK OF THE TEXT's ORDER SERVES EVERY ORDER, MEMORY MADE ON THE WAY.** -/
theorem wp_region_grow {id : Nat} {Q : Exit → Act → World → Prop} {a : Act} {w : World} {l : List Oper} (D : List Tmp) (F : List (Tmp × (Value → World → World → Prop))) (hm : P.follows .mixedOrders = true) (hB : Region.lexB .any l.toArray = true) (hT : toldB .any l.toArray D = true) (hM : madeB l.toArray D = true)
    (h : wpG P l.toArray D F w (fun a' => ∀ w', Grew w w' → AllLast D F w a' w' → AllApart D F w a' w' → Q .normal a' w') l a) : (Code.region id l.toArray true).wp P Q a w := by
  simp only [Region.lexB, Bool.and_eq_true] at hB
  refine wp_region_any hm (wpAny_of_grow (D := D) (F := F) (w0 := w) hT hM (Q := fun listed a' => (∀ i, i < l.toArray.size → listed.getD i false = true) ∧ ∀ w', Grew w w' → AllLast D F w a' w' → AllApart D F w a' w' → Q .normal a' w')
    (fun listed a' w' hi h => (fun ha : AllApart D F w a' w' => h.2 w' hi.1 ha.last ha) (hi.apart hM fun i oi d h1 _ _ => h.1 i (Array.getElem?_eq_some_iff.1 h1).1)) _ _ _ _ ?_ ?_)
  · have no : ∀ d, ¬ Listed l.toArray D (Array.replicate l.toArray.size false) d := by
      rintro d ⟨_, i, oi, _, _, hl⟩
      simp [Array.getElem?_replicate] at hl
      split at hl <;> simp at hl
    exact ⟨⟨rfl, rfl, rfl, Nat.le_refl _, fun _ _ => rfl⟩, fun _ => w, fun _ => w, fun d hd => absurd hd (no d), fun d _ hd => absurd hd (no d)⟩
  · have := wpAnyG_lex (D := D) (F := F) (w0 := w) (md := .any) (Q := fun listed a' => (∀ i, i < l.toArray.size → listed.getD i false = true) ∧ ∀ w', Grew w w' → AllLast D F w a' w' → AllApart D F w a' w' → Q .normal a' w') hT hM hB.1 (fun listed a' h1 h2 => ⟨h1, h2⟩) l 0 (Array.replicate l.toArray.size false) a (by simp) (fun i h => absurd h (by omega)) (by simp) (by simpa using hB.2) h
    simpa using this

theorem wpG_nil {Q : Act → Prop} {a : Act} (h : Q a) : wpG P ops D F w0 Q [] a := h
theorem wpG_want {Q : Act → Prop} {a : Act} {o : Oper} {rest : List Oper} (hw : Region.wanted o (yielded ops a.tmps) = true) (h : ∀ K : Act → Prop, (∀ a, wpG P ops D F w0 Q rest a → K a) → GG P ops D F w0 o a K) :
    wpG P ops D F w0 Q (o :: rest) a := by
  unfold wpG
  rw [if_pos hw]
  exact h _ fun _ h => h
theorem wpG_skip {Q : Act → Prop} {a : Act} {o : Oper} {rest : List Oper} (hw : Region.wanted o (yielded ops a.tmps) = false) (h : wpG P ops D F w0 Q rest (a.put o.dst undef)) : wpG P ops D F w0 Q (o :: rest) a := by
  unfold wpG
  rw [if_neg (by rw [hw]; exact Bool.false_ne_true)]
  exact h

@[go_sem] theorem upG_value (o : Oper) (N : Value → Prop) (u : Value) (w' w : World) : upG P F w0 o N w' (.ok (.value u) w) = (Grew w' w ∧ OfOp F o.dst u w' w ∧ N u) := rfl
@[go_sem] theorem upG_skip (o : Oper) (N : Value → Prop) (w' w : World) : upG P F w0 o N w' (.ok .skip w) = (Grew w' w ∧ N undef) := rfl
@[go_sem] theorem upG_enter (o : Oper) (N : Value → Prop) (f : FuncId) (args : Array Value) (w' w : World) :
    upG P F w0 o N w' (.ok (.enter f args) w) = (Grew w' w ∧ (Calls P f args w fun e w3 => ∃ v, e = .returned v ∧ OfCall P F w0 o.dst f args v w w3 ∧ Grew w w3) ∧ ∀ v w3, Grew w0 w3 → OfCall P F w0 o.dst f args v w w3 → N v) := rfl
@[go_sem] theorem tabF_nil (d : Tmp) : tabF [] d = none := rfl
@[go_sem] theorem tabF_cons (e d : Tmp) (f : Value → World → World → Prop) (l : List (Tmp × (Value → World → World → Prop))) : tabF ((e, f) :: l) d = if d == e then some f else tabF l d := rfl
@[go_sem] theorem ofOp_none (v : Value) (wb w : World) : OfOp F none v wb w = True := rfl
@[go_sem] theorem ofOp_some (d : Tmp) (v : Value) (wb w : World) : OfOp F (some d) v wb w = (match tabF F d with | some p => p v wb w | none => True) := rfl
@[go_sem] theorem ofCall_some (d : Tmp) (f : FuncId) (args : Array Value) (v : Value) (wb w : World) : OfCall P F w0 (some d) f args v wb w = (match tabF F d with | some p => p v wb w | none => tabR P w0 f args v) := rfl
@[go_sem] theorem ofCall_none (f : FuncId) (args : Array Value) (v : Value) (wb w : World) : OfCall P F w0 none f args v wb w = tabR P w0 f args v := rfl

/-- Told of the world behind alone. -/
def W2 (p : Value → World → Prop) (v : Value) (_ w : World) : Prop := p v w
@[go_sem] theorem w2_eq (p : Value → World → Prop) (v : Value) (wb w : World) : W2 p v wb w = p v w := rfl

/-- One value alone. -/
def Is (u : Value) (v : Value) (_ : World) : Prop := v = u

theorem Lasts.get {d : Tmp} {u : Value} {w' : World} (h : Lasts F w0 d u w') (hu : u ≠ undef) : ∃ wb w3, Grew w0 wb ∧ Grew wb w3 ∧ Grew w3 w' ∧ OfOp F (some d) u wb w3 := h.resolve_left hu

/-- + - * / in such a region. -/
theorem gG_fbin {o : Oper} {a : Act} {K : Act → Prop} {op : BinOp} {t t' : TypeId} {l r : Operand} (hop : o.op = .binOp op t l r t') (ho : arith op = true) (k : FloatKind) (x y : Nat)
    (hx : a.eval l = .float k x) (hy : a.eval r = .float k y) (hu : told F o.dst = none)
    (h : ∀ z, cl k z = fop op k (cl k x) (cl k y) → (Lit.float k z).wf = true → K (a.put o.dst (.float k z))) : GG P ops D F w0 o a K := by
  intro w hw _
  obtain ⟨z, n, h1, h2, h3⟩ := run_fbin (P := P) w ho t k x y
  simp only [execOp, hop, hx, hy, Sem.run_bind, run_eqGuard ho, Result.andThen_ok, h1, Sem.run_pure]
  exact ⟨grew_draw _ n (grw_refl w), by unfold OfOp; rw [hu]; trivial, h z h2 h3⟩

theorem calls_common' {w : World} {f : FuncId} {args : Array Value} {V V' : Value → Prop} (hi : P.inits.idxOf? f = none) (h : Calls P f args w fun e w'' => ∃ v, e = .returned v ∧ V v ∧ Grew w w'') (h' : Calls P f args w fun e w'' => ∃ v, e = .returned v ∧ V' v ∧ Grew w w'') :
    ∃ v, V v ∧ V' v := calls_common (C := fun w'' => Grew w w'') (C' := fun w'' => Grew w w'') hi h h'

theorem tabR_ok {f : FuncId} {args : Array Value} {V : Value → Prop} (hcl : clsV V) (hV : ValidR P w0 f args V) : ∀ w, Grew w0 w → Calls P f args w fun e w'' => ∃ v, e = .returned v ∧ tabR P w0 f args v ∧ Grew w w'' := by
  intro w hw
  by_cases hx : ∃ u, ValidR P w0 f args (· = u)
  · obtain ⟨u, hu⟩ := hx
    refine (hu.2 w hw).mono fun e w'' ⟨v, he, hv, hc⟩ => ⟨v, he, fun V' _ hV' => ?_, hc⟩
    obtain ⟨v', h1, h2⟩ := calls_common' hu.1 (hu.2 w hw) (hV'.2 w hw)
    rw [hv, ← h1]
    exact h2
  · have no : ∀ V' : Value → Prop, ValidR P w0 f args V' → ¬ ∃ u, ∀ v, V' v ↔ v = u := by
      rintro V' hV' ⟨u, hu⟩
      exact hx ⟨u, hV'.1, fun w hw => (hV'.2 w hw).mono fun e w'' ⟨v, he, hv, hc⟩ => ⟨v, he, (hu v).1 hv, hc⟩⟩
    rcases hcl with h | ⟨κ, hκ⟩
    · exact absurd h (no V hV)
    · refine (hV.2 w hw).mono fun e w'' ⟨v, he, hv, hc⟩ => ⟨v, he, fun V' hc' hV' => ?_, hc⟩
      rcases hc' with h | ⟨κ', hκ'⟩
      · exact absurd h (no V' hV')
      · obtain ⟨v', h1, h2⟩ := calls_common' hV.1 (hV.2 w hw) (hV'.2 w hw)
        rw [hκ', (hκ v).1 hv, ← (hκ v').1 h1]
        exact (hκ' v').1 h2
end

section
variable {P : Program} {w0 wq : World} {f : FuncId} {args : Array Value} {K : Value → Prop}
theorem g_at (f : FuncId) {R : Ending → World → Prop} {K : Prop} (h : Calls P f args wq R ∧ K) : Calls P f args wq R ∧ K := h
/-- A CALL IN SUCH A REGION, BY ITS CONTRACT, WHERE ITS SLOT IS NOT TOLD. -/
theorem g_call (V : Value → Prop) (hcl : clsV V) (hq : Grew w0 wq) (hi : P.inits.idxOf? f = none) (hc : ∀ w, Grew w0 w → Calls P f args w fun e w'' => ∃ v, e = .returned v ∧ V v ∧ Grew w w'') (hk : ∀ v, V v → K v) :
    (Calls P f args wq fun e w3 => ∃ v, e = .returned v ∧ tabR P w0 f args v ∧ Grew wq w3) ∧ ∀ v w3, Grew w0 w3 → tabR P w0 f args v → K v :=
  ⟨tabR_ok hcl ⟨hi, hc⟩ wq hq, fun v _ _ hv => hk v (hv V hcl ⟨hi, hc⟩)⟩
theorem g_v (u : Value) (hq : Grew w0 wq) (hi : P.inits.idxOf? f = none) (hc : ∀ w, Grew w0 w → Calls P f args w fun e w'' => e = .returned u ∧ Grew w w'') (hk : K u) :
    (Calls P f args wq fun e w3 => ∃ v, e = .returned v ∧ tabR P w0 f args v ∧ Grew wq w3) ∧ ∀ v w3, Grew w0 w3 → tabR P w0 f args v → K v :=
  g_call (· = u) (cls_val u) hq hi (fun w hw => (hc w hw).mono fun _ _ ⟨he, h⟩ => ⟨u, he, rfl, h⟩) (fun _ h => h ▸ hk)
theorem g_f (d : Ieee.Datum) (hq : Grew w0 wq) (hi : P.inits.idxOf? f = none) (hc : ∀ w, Grew w0 w → Calls P f args w fun e w'' => ∃ r, e = .returned (.float .f32 r) ∧ cl .f32 r = d ∧ (Lit.float .f32 r).wf = true ∧ Grew w w'') (hk : ∀ r, cl .f32 r = d → (Lit.float .f32 r).wf = true → K (.float .f32 r)) :
    (Calls P f args wq fun e w3 => ∃ v, e = .returned v ∧ tabR P w0 f args v ∧ Grew wq w3) ∧ ∀ v w3, Grew w0 w3 → tabR P w0 f args v → K v :=
  g_call (IsF d) (cls_flt d) hq hi (fun w hw => (hc w hw).mono fun _ _ ⟨r, he, h1, h2, h⟩ => ⟨_, he, ⟨r, rfl, h1, h2⟩, h⟩) (fun _ ⟨r, e, h1, h2⟩ => e ▸ hk r h1 h2)
theorem g_d (d : Ieee.Datum) (hq : Grew w0 wq) (hi : P.inits.idxOf? f = none) (hc : ∀ w, Grew w0 w → Calls P f args w fun e w'' => ∃ r, e = .returned (.float .f64 r) ∧ cl .f64 r = d ∧ (Lit.float .f64 r).wf = true ∧ Grew w w'') (hk : ∀ r, cl .f64 r = d → (Lit.float .f64 r).wf = true → K (.float .f64 r)) :
    (Calls P f args wq fun e w3 => ∃ v, e = .returned v ∧ tabR P w0 f args v ∧ Grew wq w3) ∧ ∀ v w3, Grew w0 w3 → tabR P w0 f args v → K v :=
  g_call (IsD d) (cls_dbl d) hq hi (fun w hw => (hc w hw).mono fun _ _ ⟨r, he, h1, h2, h⟩ => ⟨_, he, ⟨r, rfl, h1, h2⟩, h⟩) (fun _ ⟨r, e, h1, h2⟩ => e ▸ hk r h1 h2)
theorem g_fb (d : Ieee.Datum) (b : Bool) (hq : Grew w0 wq) (hi : P.inits.idxOf? f = none) (hc : ∀ w, Grew w0 w → Calls P f args w fun e w'' => ∃ r, e = .returned (.tuple #[.float .f32 r, .bool b]) ∧ cl .f32 r = d ∧ (Lit.float .f32 r).wf = true ∧ Grew w w'') (hk : ∀ r, cl .f32 r = d → (Lit.float .f32 r).wf = true → K (.tuple #[.float .f32 r, .bool b])) :
    (Calls P f args wq fun e w3 => ∃ v, e = .returned v ∧ tabR P w0 f args v ∧ Grew wq w3) ∧ ∀ v w3, Grew w0 w3 → tabR P w0 f args v → K v :=
  g_call (IsFB d b) (cls_fltb d b) hq hi (fun w hw => (hc w hw).mono fun _ _ ⟨r, he, h1, h2, h⟩ => ⟨_, he, ⟨r, rfl, h1, h2⟩, h⟩) (fun _ ⟨r, e, h1, h2⟩ => e ▸ hk r h1 h2)
end
end Go.Flt
