/-
  A REGION THAT DRAWS ITS ORDER AND ENDS IN A CHAIN: ITS HEAD IN ANY ORDER (MEMORY MADE ON THE WAY), THEN THE CHAIN, OPERATION BY OPERATION.
-/
import Derived.Test.YtkippcjifikegaaGrow
namespace Go.Flt
open Go

section
variable (P : Program) (md : Region.Mode) (ops : Array Oper) (D : List Tmp) (F : List (Tmp × (Value → World → World → Prop))) (w0 : World) (L T : List Nat)

/-- What has been listed is closed: whoever is listed of the head has what it comes behind. -/
def DC (listed : Array Bool) : Prop := listed.size = ops.size ∧ (∀ j oj, ops[j]? = some oj → j ∈ L → listed.getD j false = true → ∀ e ∈ oj.after, Region.binds md e = true → listed.getD e.on false = true) ∧
  (∀ i, i < ops.size → i ∉ L → i ∉ T → listed.getD i false = true) ∧ ∀ t, t ∈ T → listed.getD t false = false

def wpAnyT (Q : Array Bool → Act → Prop) : Nat → Array Bool → Act → Prop
  | 0, listed, a => (∃ w', Inv ops D F w0 listed a w') → DC md ops L T listed → (∀ i, i ∈ L → listed.getD i false = true) ∧ Q listed a
  | fuel + 1, listed, a => (∃ w', Inv ops D F w0 listed a w') → DC md ops L T listed →
    (∀ t, t ∈ T → t ∈ Region.ready md ops listed → False) ∧ (∃ i, i ∈ L ∧ i ∈ Region.ready md ops listed) ∧
    ∀ i ∈ Region.ready md ops listed, i ∈ L → gOp P ops D F w0 i (wpAnyT Q fuel (listed.setIfInBounds i true)) a

/-- Whoever of the chain may come up has the whole head behind it (or waits for another one of the chain). -/
def waits (t : Nat) : Bool := match ops[t]? with
  | some ot => ot.after.any fun e => Region.binds md e && T.contains e.on
  | none => false
def headB : Bool := T.all (fun t => (L.all fun i => !T.contains i) && (waits md ops T t || L.all fun i => (t :: L).any fun j => decide (i < j) && (match ops[j]? with
  | some oj => oj.after.any fun e => Region.binds md e && e.on == i
  | none => false)))

/-- The head, operation by operation in the order L. -/
def lexL : List Nat → Array Bool → Bool
  | [], _ => true
  | k :: l, listed => (Region.ready md ops listed).contains k && Region.free md ops listed k && lexL l (listed.setIfInBounds k true)

/-- The chain. -/
def chainB : List Nat → Array Bool → Bool
  | [], listed => (Region.ready md ops listed).isEmpty
  | t :: ts, listed => (Region.ready md ops listed == [t]) && chainB ts (listed.setIfInBounds t true)
end

section
variable {P : Program} {md : Region.Mode} {ops : Array Oper} {D : List Tmp} {F : List (Tmp × (Value → World → World → Prop))} {w0 : World} {L T : List Nat}

theorem headB_not (hh : headB md ops L T = true) {t : Nat} (ht : t ∈ T) {i : Nat} (hi : i ∈ L) : i ∉ T := by
  have h0 := List.all_eq_true.1 hh t ht
  simp only [Bool.and_eq_true] at h0
  have h1 := List.all_eq_true.1 h0.1 i hi
  simpa using h1

theorem headB_at (hh : headB md ops L T = true) {t : Nat} (ht : t ∈ T) (hw : waits md ops T t = false) {i : Nat} (hi : i ∈ L) : ∃ j oj, (j = t ∨ j ∈ L) ∧ i < j ∧ ops[j]? = some oj ∧ ∃ e ∈ oj.after, Region.binds md e = true ∧ e.on = i := by
  have h0 := List.all_eq_true.1 hh t ht
  simp only [Bool.and_eq_true, hw, Bool.false_or] at h0
  have h1 := List.all_eq_true.1 h0.2 i hi
  simp only [Bool.and_eq_true, List.any_eq_true] at h1
  obtain ⟨j, hj, hlt, hb⟩ := h1
  cases ho : ops[j]? with
  | none => rw [ho] at hb; cases hb
  | some oj =>
    rw [ho] at hb
    obtain ⟨e, he, hb⟩ := Array.any_eq_true'.1 hb
    simp only [Bool.and_eq_true, beq_iff_eq] at hb
    refine ⟨j, oj, ?_, of_decide_eq_true hlt, ho, e, he, hb⟩
    simpa using hj

/-- Who comes up does not wait for one of the chain. -/
theorem waits_no {listed : Array Bool} (dc : DC md ops L T listed) {t : Nat} (hr : t ∈ Region.ready md ops listed) : waits md ops T t = false := by
  obtain ⟨_, o, ho, hall⟩ := mem_ready.1 hr
  unfold waits
  rw [ho]
  show (o.after.any fun e => Region.binds md e && T.contains e.on) = false
  cases h : (o.after.any fun e => Region.binds md e && T.contains e.on) with
  | false => rfl
  | true =>
    exfalso
    obtain ⟨e, he, hb⟩ := Array.any_eq_true'.1 h
    simp only [Bool.and_eq_true, List.contains_eq_mem, decide_eq_true_eq] at hb
    have h1 := hall e he hb.1
    rw [dc.2.2.2 e.on hb.2] at h1
    cases h1

theorem anc (hh : headB md ops L T = true) {listed : Array Bool} (dc : DC md ops L T listed) {t : Nat} (ht : t ∈ T) (hr : t ∈ Region.ready md ops listed) : ∀ (n i : Nat), i ∈ L → ops.size ≤ i + n → listed.getD i false = true := by
  have hw := waits_no dc hr
  intro n
  induction n with
  | zero =>
    intro i hi hn
    obtain ⟨j, oj, _, hlt, hoj, _⟩ := headB_at hh ht hw hi
    have := (Array.getElem?_eq_some_iff.1 hoj).1
    omega
  | succ n ih =>
    intro i hi hn
    obtain ⟨j, oj, hj, hlt, hoj, e, he, hb, hon⟩ := headB_at hh ht hw hi
    rcases hj with rfl | hj
    · obtain ⟨_, o', ho', hall⟩ := mem_ready.1 hr
      rw [hoj] at ho'
      injection ho' with ho'
      subst ho'
      rw [← hon]
      exact hall e he hb
    · rw [← hon]
      exact dc.2.1 j oj hoj hj (ih j hj (by omega)) e he hb

theorem DC.step (hh : headB md ops L T = true) {listed : Array Bool} (dc : DC md ops L T listed) {i : Nat} (hi : i ∈ L) (hr : i ∈ Region.ready md ops listed) : DC md ops L T (listed.setIfInBounds i true) := by
  refine ⟨by simpa using dc.1, fun j oj hoj hj hl e he hb => ?_, fun k h1 h2 h3 => getD_set_true (dc.2.2.1 k h1 h2 h3), fun t ht => ?_⟩
  · by_cases hji : j = i
    · subst hji
      obtain ⟨_, o', ho', hall⟩ := mem_ready.1 hr
      rw [hoj] at ho'
      injection ho' with ho'
      subst ho'
      exact getD_set_true (hall e he hb)
    · exact getD_set_true (dc.2.1 j oj hoj hj (by rw [← getD_set_ne false (Ne.symm hji)]; exact hl) e he hb)
  · have : i ≠ t := fun e => headB_not hh ht hi (e ▸ ht)
    rw [getD_set_ne false this]
    exact dc.2.2.2 t ht

theorem wpAny_chain {Q : Exit → Act → World → Prop} : ∀ (ts : List Nat) (tl : List Oper) (listed : Array Bool) (a : Act) (w : World), ts.map (fun t => ops[t]?) = tl.map some → chainB md ops ts listed = true → wpList P ops Q tl a w → wpAny P md ops Q ts.length listed a w
  | [], [], listed, a, w, _, hc, h => ⟨by simpa [chainB] using hc, h⟩
  | [], _ :: _, _, _, _, hm, _, _ => by simp at hm
  | _ :: _, [], _, _, _, hm, _, _ => by simp at hm
  | t :: ts, o :: tl, listed, a, w, hm, hc, h => by
    simp only [List.map_cons, List.cons.injEq] at hm
    simp only [chainB, Bool.and_eq_true, beq_iff_eq] at hc
    refine ⟨fun h0 => (by rw [hc.1] at h0; cases h0), fun i hi => ?_⟩
    rw [hc.1] at hi
    simp at hi
    subst hi
    unfold wpOp
    simp only [hm.1]
    unfold wpList at h
    split
    · rename_i hw
      rw [if_pos hw] at h
      exact h.imp (Oper.wp_mono fun a w h => wpAny_chain ts tl _ a w hm.2 hc.2 h) id
    · rename_i hw
      rw [if_neg hw] at h
      exact wpAny_chain ts tl _ _ w hm.2 hc.2 h

theorem wpAny_of_T (ht : toldB md ops D = true) (hm : madeB ops D = true) (hh : headB md ops L T = true) {Q : Array Bool → Act → Prop} {Q' : Exit → Act → World → Prop}
    (hQ : ∀ listed a w, Inv ops D F w0 listed a w → DC md ops L T listed → (∀ i, i ∈ L → listed.getD i false = true) → Q listed a → wpAny P md ops Q' T.length listed a w) :
    ∀ (fuel : Nat) (listed : Array Bool) (a : Act) (w : World), Inv ops D F w0 listed a w → DC md ops L T listed → wpAnyT P md ops D F w0 L T Q fuel listed a → wpAny P md ops Q' (T.length + fuel) listed a w
  | 0, listed, a, w, hw, dc, h => hQ listed a w hw dc (h ⟨_, hw⟩ dc).1 (h ⟨_, hw⟩ dc).2
  | fuel + 1, listed, a, w, hw, dc, h => by
    obtain ⟨h1, ⟨i0, _, h2⟩, h3⟩ := h ⟨_, hw⟩ dc
    refine ⟨fun h0 => (by rw [h0] at h2; cases h2), fun i hi => ?_⟩
    obtain ⟨hun, oi, hoi, _⟩ := mem_ready.1 hi
    have hlt : i < ops.size := (Array.getElem?_eq_some_iff.1 hoi).1
    have hL : i ∈ L := by
      by_cases hL : i ∈ L
      · exact hL
      · exfalso
        by_cases hT : i ∈ T
        · exact h1 i hT hi
        · have := dc.2.2.1 i hlt hL hT
          have hs : i < listed.size := by rw [dc.1]; exact hlt
          simp [hs] at this hun
          rw [this] at hun
          cases hun
    exact wpOp_of_gOp hoi hw.1 (hw.prem ht hoi hi hm) (fun v wb w' hgb hg hv hk => wpAny_of_T ht hm hh hQ fuel _ _ w' (hw.step ht hoi hgb hg hv) (dc.step hh hL hi) hk) (h3 i hi hL)

theorem wpAnyT_first (ht : toldB md ops D = true) (hm : madeB ops D = true) (hh : headB md ops L T = true) {Q : Array Bool → Act → Prop} {i : Nat} {oi : Oper} (hi : ops[i]? = some oi) (hiL : i ∈ L) (hsel : ∀ (j : Nat) (o : Oper) cs b, ops[j]? = some o → o.op ≠ .select cs b) :
    ∀ (fuel : Nat) (listed : Array Bool) (a : Act),
      (∀ j oj, ops[j]? = some oj → j ≠ i → listed.getD j true = false → (∀ e ∈ oj.after, Region.binds md e = true → e.on ≠ i) → oi.apart ops oj = true) →
      i ∈ Region.ready md ops listed → GGoes P ops D F w0 oi a →
      (∀ v, GGives P ops D F w0 oi a v → wpAnyT P md ops D F w0 L T Q fuel (listed.setIfInBounds i true) (a.put oi.dst v)) → wpAnyT P md ops D F w0 L T Q (fuel + 1) listed a := by
  have hnl : ∀ (listed : Array Bool), i ∈ Region.ready md ops listed → DC md ops L T listed → listed.getD i false = false := by
    intro listed hr dc
    have h0 := (mem_ready.1 hr).1
    have hs : i < listed.size := by rw [dc.1]; exact (Array.getElem?_eq_some_iff.1 hi).1
    simp [hs] at h0 ⊢
    exact h0
  intro fuel
  induction fuel with
  | zero =>
    rintro listed a _ hr hy H ⟨w', live⟩ dc
    refine ⟨fun t htT htr => ?_, ⟨i, hiL, hr⟩, fun j hj hjL => ?_⟩
    · have := anc hh dc htT htr ops.size i hiL (by omega)
      rw [hnl listed hr dc] at this
      cases this
    by_cases hji : j = i
    · subst hji; unfold gOp; simp only [hi]; exact ⟨hy, H⟩
    · obtain ⟨v0, wb, w'', hv0, hgb, hg, hof⟩ := gives_live hy live.1 (live.prem ht hi hr hm)
      have := (H v0 hv0 ⟨w'', live.step ht hi hgb hg hof⟩ (dc.step hh hiL hr)).1 j hjL
      rw [getD_set_ne false (Ne.symm hji)] at this
      obtain ⟨hjun, oj, hoj, _⟩ := mem_ready.1 hj
      have hs : j < listed.size := by rw [dc.1]; exact (Array.getElem?_eq_some_iff.1 hoj).1
      simp [hs] at hjun this
      rw [hjun] at this
      cases this
  | succ fuel ih =>
    rintro listed a hfree hr hy H ⟨w', live⟩ dc
    refine ⟨fun t htT htr => ?_, ⟨i, hiL, hr⟩, fun j hj hjL => ?_⟩
    · have := anc hh dc htT htr ops.size i hiL (by omega)
      rw [hnl listed hr dc] at this
      cases this
    by_cases hji : j = i
    · subst hji; unfold gOp; simp only [hi]; exact ⟨hy, H⟩
    · obtain ⟨v0, wb, w'', hv0, hgb, hg, hof⟩ := gives_live hy live.1 (live.prem ht hi hr hm)
      obtain ⟨hjun, oj, hoj, hall⟩ := mem_ready.1 hj
      have hnot : ∀ e ∈ oj.after, Region.binds md e = true → e.on ≠ i := fun e he hb heq => by
        have h1 := hall e he hb
        have h0 := (mem_ready.1 hr).1
        rw [heq] at h1
        rcases Nat.lt_or_ge i listed.size with h' | h'
        · simp [h'] at h0 h1; rw [h0] at h1; cases h1
        · simp [Array.getElem?_eq_none h'] at h1
      have hap := hfree j oj hoj hji hjun hnot
      have hsi := fun cs b => hsel i oi cs b hi
      have hsj := fun cs b => hsel j oj cs b hoj
      have hfree' : ∀ k ok, ops[k]? = some ok → k ≠ i → (listed.setIfInBounds j true).getD k true = false →
          (∀ e ∈ ok.after, Region.binds md e = true → e.on ≠ i) → oi.apart ops ok = true := fun k ok hk hki hun hno => by
        refine hfree k ok hk hki ?_ hno
        by_cases hjk : j = k
        · subst hjk; exact hjun
        · rw [getD_set_ne true hjk] at hun; exact hun
      have h1 := (H v0 hv0 ⟨w'', live.step ht hi hgb hg hof⟩ (dc.step hh hiL hr)).2.2 j (ready_mono hj hji) hjL
      unfold gOp at h1 ⊢
      simp only [hoj] at h1 ⊢
      refine ⟨(GGoes.put hap hsj).1 h1.1, fun u hu => ?_⟩
      refine ih (listed.setIfInBounds j true) (a.put oj.dst u) hfree' (ready_mono hr (Ne.symm hji)) ((GGoes.put' hap hsi).2 hy) fun v hv => ?_
      have hv' := (GGives.put' hap hsi).1 hv
      rw [Array.setIfInBounds_comm _ _ hji]
      have hcm := Act.put_comm a v u (Oper.apart_spec hap).2.1
      rw [← hcm]
      have hjun' : (listed.setIfInBounds i true).getD j true = false := by rw [getD_set_ne true (Ne.symm hji)]; exact hjun
      have main : (∃ w, Inv ops D F w0 ((listed.setIfInBounds i true).setIfInBounds j true) ((a.put oi.dst v).put oj.dst u) w) → wpAnyT P md ops D F w0 L T Q fuel ((listed.setIfInBounds i true).setIfInBounds j true) ((a.put oi.dst v).put oj.dst u) := by
        rintro ⟨w4, l4⟩
        have h2 := (H v hv' ⟨w4, l4.back ht hoj hjun'⟩ (dc.step hh hiL hr)).2.2 j (ready_mono hj hji) hjL
        unfold gOp at h2
        simp only [hoj] at h2
        exact h2.2 u ((GGives.put hap hsj).2 hu)
      cases fuel with
      | zero => exact fun l d => main l l d
      | succ fuel => exact fun l d => main l l d

theorem wpAnyT_lex (ht : toldB md ops D = true) (hm : madeB ops D = true) (hh : headB md ops L T = true) {Q0 : Act → Prop} (hs : Region.noSelect ops = true) : ∀ (l : List Nat) (lo : List Oper) (listed : Array Bool) (a : Act), l.map (fun t => ops[t]?) = lo.map some →
    (∀ i, i ∈ l → i ∈ L) → (∀ i, i ∈ L → listed.getD i false = true ∨ i ∈ l) → listed.size = ops.size → lexL md ops l listed = true → wpG P ops D F w0 Q0 lo a → wpAnyT P md ops D F w0 L T (fun _ => Q0) l.length listed a
  | [], [], listed, a, _, _, h2, _, _, h => fun _ _ => ⟨fun i hi => (h2 i hi).resolve_right (by simp), h⟩
  | [], _ :: _, _, _, hm, _, _, _, _, _ => by simp at hm
  | _ :: _, [], _, _, hm, _, _, _, _, _ => by simp at hm
  | k :: l, o :: lo, listed, a, hmap, hL, hall, hsz, hB, h => by
    simp only [List.map_cons, List.cons.injEq] at hmap
    have h0 := hmap.1
    have hk : k < ops.size := (Array.getElem?_eq_some_iff.1 h0).1
    simp only [lexL, Bool.and_eq_true] at hB
    obtain ⟨⟨hr, hf⟩, hB'⟩ := hB
    have hst : gOp P ops D F w0 k (wpG P ops D F w0 Q0 lo) a := gOp_of_walk h0 h
    unfold gOp at hst
    simp only [h0] at hst
    exact wpAnyT_first ht hm hh h0 (hL k (by simp)) (Region.noSelect_spec hs) l.length listed a (Region.free_spec h0 hf) (by simpa using hr) hst.1 fun v hv =>
      wpAnyT_lex ht hm hh hs l lo _ _ hmap.2 (fun i hi => hL i (by simp [hi])) (fun i hi => by
        by_cases hik : i = k
        · subst hik; left; simp [hsz, hk]
        · rcases hall i hi with h' | h'
          · left; exact getD_set_true h'
          · right
            simp only [List.mem_cons] at h'
            exact h'.resolve_left hik) (by simpa using hsz) hB' (hst.2 v hv)

/-- Which operations are listed at the head's start, and at its end. -/
def start0 (n : Nat) (L T : List Nat) : Array Bool := ((List.range n).map fun i => !L.contains i && !T.contains i).toArray
def end0 (n : Nat) (T : List Nat) : Array Bool := ((List.range n).map fun i => !T.contains i).toArray

theorem start0_at {n : Nat} {L T : List Nat} {i : Nat} (h : i < n) : (start0 n L T).getD i false = (!L.contains i && !T.contains i) := by
  simp [start0, h]

/-- Told slots are the head's. -/
def ownB (ops : Array Oper) (D : List Tmp) (L : List Nat) : Bool := D.all fun d => L.any fun i => match ops[i]? with
  | some o => o.dst == some d
  | none => false

/-- **THE HEAD IN ANY ORDER, THEN THE CHAIN.** (What is neither of the head nor of the chain has been listed.) -/
theorem wpAny_tail {Q : Exit → Act → World → Prop} {a : Act} {w w1 : World} (D : List Tmp) (F : List (Tmp × (Value → World → World → Prop))) (L T : List Nat) (lo tl : List Oper) (hw1 : Grew w w1) (hL : L.map (fun t => ops[t]?) = lo.map some) (hT : T.map (fun t => ops[t]?) = tl.map some)
    (hs : Region.noSelect ops = true) (ht : toldB md ops D = true) (hm : madeB ops D = true) (ho : ownB ops D L = true) (hne : T ≠ []) (hh : headB md ops L T = true) (hl : lexL md ops L (start0 ops.size L T) = true) (hc : chainB md ops T (end0 ops.size T) = true)
    (h : wpG P ops D F w (fun a' => ∀ w', Grew w w' → AllLast D F w a' w' → AllApart D F w a' w' → wpList P ops Q tl a' w') lo a) : wpAny P md ops Q (T.length + L.length) (start0 ops.size L T) a w1 := by
  obtain ⟨t0, ht0⟩ := List.exists_mem_of_ne_nil T hne
  have hsz : (start0 ops.size L T).size = ops.size := by simp [start0]
  have hlt : ∀ i, i ∈ L → i < ops.size := fun i hi => by
    have : ops[i]? ∈ L.map (fun t => ops[t]?) := List.mem_map.2 ⟨i, hi, rfl⟩
    rw [hL] at this
    obtain ⟨o, _, ho⟩ := List.mem_map.1 this
    exact (Array.getElem?_eq_some_iff.1 ho.symm).1
  have hd : ∀ d, d ∈ D → ∃ i oi, i ∈ L ∧ ops[i]? = some oi ∧ oi.dst = some d := fun d hd => by
    have h1 := List.all_eq_true.1 ho d hd
    obtain ⟨i, hi, hb⟩ := List.any_eq_true.1 h1
    cases hoi : ops[i]? with
    | none => rw [hoi] at hb; cases hb
    | some oi => rw [hoi] at hb; exact ⟨i, oi, hi, hoi, by simpa using hb⟩
  refine wpAny_of_T (D := D) (F := F) (w0 := w) ht hm hh (Q := fun _ a' => ∀ w', Grew w w' → AllLast D F w a' w' → AllApart D F w a' w' → wpList P ops Q tl a' w') (fun listed a' w' hi dc hall hq => ?_) L.length _ a w1 ?_ ?_ (wpAnyT_lex ht hm hh hs L lo _ a hL (fun i hi => hi) (fun i hi => .inr hi) hsz hl h)
  · have he : listed = end0 ops.size T := by
      apply Array.ext (by rw [dc.1]; simp [end0])
      intro i h1 h2
      have hi' : i < ops.size := by rw [← dc.1]; exact h1
      have e1 : (end0 ops.size T)[i] = !T.contains i := by simp [end0]
      rw [e1]
      have g : listed.getD i false = listed[i] := by simp [h1]
      by_cases hiT : i ∈ T
      · have := dc.2.2.2 i hiT
        rw [g] at this
        simp [this, hiT]
      · by_cases hiL : i ∈ L
        · have := hall i hiL
          rw [g] at this
          simp [this, hiT]
        · have := dc.2.2.1 i hi' hiL hiT
          rw [g] at this
          simp [this, hiT]
    rw [he]
    have hap : AllApart D F w a' w' := hi.apart hm fun i oi d hoi hid hdD => by
      obtain ⟨k, ok, hkL, hok, hkd⟩ := hd d hdD
      by_cases hik : i = k
      · subst hik; exact he ▸ hall i hkL
      · exact absurd hid (toldB_spec ht hdD hok hkd hoi hik).1
    exact wpAny_chain T tl _ a' w' hT hc (hq w' hi.1 hap.last hap)
  · have no : ∀ d, ¬ Listed ops D (start0 ops.size L T) d := by
      rintro d ⟨hdD, i, oi, hi, hid, hli⟩
      obtain ⟨k, ok, hkL, hok, hkd⟩ := hd d hdD
      have hlt' : i < ops.size := (Array.getElem?_eq_some_iff.1 hi).1
      rw [start0_at hlt'] at hli
      by_cases hik : i = k
      · subst hik
        simp [hkL] at hli
      · exact absurd hid (toldB_spec ht hdD hok hkd hi hik).1
    exact ⟨hw1, fun _ => w, fun _ => w, fun d hd => absurd hd (no d), fun d _ hd => absurd hd (no d)⟩
  · refine ⟨hsz, fun j oj hoj hj hl => ?_, fun i h1 h2 h3 => ?_, fun t htT => ?_⟩
    · rw [start0_at (hlt j hj)] at hl
      simp [hj] at hl
    · rw [start0_at h1]
      simp [h2, h3]
    · by_cases h' : t < ops.size
      · rw [start0_at h']
        simp [htT]
      · have hno : (List.range ops.size)[t]? = none := List.getElem?_eq_none (by simp; omega)
        simp [start0, hno]

theorem wpAny_tail' {Q : Exit → Act → World → Prop} {a : Act} {w : World} {listed : Array Bool} {fuel : Nat} (w0 : World) (D : List Tmp) (F : List (Tmp × (Value → World → World → Prop))) (L T : List Nat) (lo tl : List Oper) (hw : Grew w0 w) (hz : listed = start0 ops.size L T) (hn : fuel = T.length + L.length)
    (hL : L.map (fun t => ops[t]?) = lo.map some) (hT : T.map (fun t => ops[t]?) = tl.map some)
    (hs : Region.noSelect ops = true) (ht : toldB md ops D = true) (hm : madeB ops D = true) (ho : ownB ops D L = true) (hne : T ≠ []) (hh : headB md ops L T = true) (hl : lexL md ops L (start0 ops.size L T) = true) (hc : chainB md ops T (end0 ops.size T) = true)
    (h : wpG P ops D F w0 (fun a' => ∀ w', Grew w0 w' → AllLast D F w0 a' w' → AllApart D F w0 a' w' → wpList P ops Q tl a' w') lo a) : wpAny P md ops Q fuel listed a w := by
  subst hz hn
  exact wpAny_tail D F L T lo tl hw hL hT hs ht hm ho hne hh hl hc h

def picks (l : List Oper) (L : List Nat) : List Oper := L.filterMap fun t => l[t]?

theorem grew_tick (w : World) : Grew w { w with drawn := w.drawn + 1 } := ⟨rfl, rfl, rfl, Nat.le_refl _, fun _ _ => rfl⟩

theorem wpAny_tail'' {Q : Exit → Act → World → Prop} {a : Act} {w : World} {listed : Array Bool} {fuel : Nat} {l : List Oper} (D : List Tmp) (F : List (Tmp × (Value → World → World → Prop))) (L T : List Nat) (hz : listed = start0 l.toArray.size L T) (hn : fuel = T.length + L.length)
    (hL : L.map (fun t => l.toArray[t]?) = (picks l L).map some) (hT : T.map (fun t => l.toArray[t]?) = (picks l T).map some)
    (hs : Region.noSelect l.toArray = true) (ht : toldB .any l.toArray D = true) (hm : madeB l.toArray D = true) (ho : ownB l.toArray D L = true) (hne : T ≠ []) (hh : headB .any l.toArray L T = true) (hl : lexL .any l.toArray L (start0 l.toArray.size L T) = true) (hc : chainB .any l.toArray T (end0 l.toArray.size T) = true)
    (h : wpG P l.toArray D F w (fun a' => ∀ w', Grew w w' → AllLast D F w a' w' → AllApart D F w a' w' → wpList P l.toArray Q (picks l T) a' w') (picks l L) a) : wpAny P .any l.toArray Q fuel listed a { w with drawn := w.drawn + 1 } :=
  wpAny_tail' w D F L T _ _ (grew_tick w) hz hn hL hT hs ht hm ho hne hh hl hc h

/-- One float in a block of its own. -/
def OneF (B : Nat) (d : Ieee.Datum) (v : Value) (w' : World) : Prop := ∃ b r, v = .slice (some ⟨b, 0, none⟩) 1 1 ∧ B ≤ b ∧ b < w'.heap.size ∧ w'.cell? ⟨b, 0, none⟩ = some (.float .f32 r) ∧ cl .f32 r = d ∧ (Lit.float .f32 r).wf = true

theorem oneF_new {B : Nat} {d : Ieee.Datum} {w : World} {r : Nat} {t : TypeId} (hB : B ≤ w.heap.size) (h1 : cl .f32 r = d) (h2 : (Lit.float .f32 r).wf = true) : OneF B d (.slice (some ⟨w.heap.size, 0, none⟩) 1 1) (w.alloc (.cells #[.float .f32 r] t)) :=
  ⟨_, r, rfl, hB, by simp, by simp, h1, h2⟩

theorem OneF.get {F : List (Tmp × (Value → World → World → Prop))} {w0 w' : World} {k : Tmp} {u : Value} {B : Nat} {d : Ieee.Datum} (h : Lasts F w0 k u w') (hu : u ≠ undef) (e : tabF F k = some (W2 (OneF B d))) :
    ∃ b r, u = .slice (some ⟨b, 0, none⟩) 1 1 ∧ B ≤ b ∧ b < w'.heap.size ∧ w'.cell? ⟨b, 0, none⟩ = some (.float .f32 r) ∧ cl .f32 r = d ∧ (Lit.float .f32 r).wf = true := by
  obtain ⟨wb, w3, _, h1, h2, h3⟩ := h.get hu
  rw [ofOp_some, e] at h3
  obtain ⟨b, r, e1, e2, e3, e4, e5, e6⟩ := h3
  refine ⟨b, r, e1, e2, Nat.lt_of_lt_of_le e3 (RowKit.Below.size h2), ?_, e5, e6⟩
  rw [← e4]
  exact h2.cell (p := ⟨b, 0, none⟩) e3
end
end Go.Flt
