/-
  DATA AND STATES for roses of winds.
-/
import Derived.Test.YtebhefbpkcpnjaaSectW
import Derived.Test.YtebhefbpkcpnjaaBox
namespace Go.Proofs.Ytebhefbpkcpnjaa
open Go.RowKit Go.Flt
set_option linter.unusedVariables false
set_option maxRecDepth 100000
set_option linter.unusedSimpArgs false

/-- How many of the first k turns lie in sector i. -/
def cntF (xs : List Nat) (c : Nat) : Nat → Nat → Nat
  | 0, _ => 0
  | k + 1, i => if i = secK (cl .f32 (xs.getD k 0)) c then cntF xs c k i + 1 else cntF xs c k i

/-- The sum of the speeds of those. -/
def smF (xs ys : List Nat) (c : Nat) : Nat → Nat → Ieee.Datum
  | 0, _ => cl .f32 0
  | k + 1, i => if i = secK (cl .f32 (xs.getD k 0)) c then fop .add .f32 (smF xs ys c k i) (cl .f32 (ys.getD k 0)) else smF xs ys c k i

def mnL (xs : List Nat) (c k : Nat) : List Int := (List.range c).map fun i => ((cntF xs c k i : Nat) : Int)

def suL (xs ys : List Nat) (c k : Nat) : List Ieee.Datum := (List.range c).map (smF xs ys c k)

def dS (xs : List Nat) (c i : Nat) : Ieee.Datum := fop .quo .f32 (cl .f32 (floatOfInt .f32 ((cntF xs c xs.length i : Nat) : Int))) (cl .f32 (floatOfInt .f32 (xs.length : Int)))

def dV (xs ys : List Nat) (c i : Nat) : Ieee.Datum := if 0 < cntF xs c xs.length i then fop .quo .f32 (smF xs ys c xs.length i) (cl .f32 (floatOfInt .f32 ((cntF xs c xs.length i : Nat) : Int))) else cl .f32 0

def shL (xs : List Nat) (c : Nat) : List Ieee.Datum := (List.range c).map (dS xs c)

def spL (xs ys : List Nat) (c : Nat) : List Ieee.Datum := (List.range c).map (dV xs ys c)

/-- The two rows in the program, k places done. -/
def shK (xs : List Nat) (c k : Nat) : List Ieee.Datum := (List.range c).map fun i => if i < k then dS xs c i else cl .f32 0

def spK (xs ys : List Nat) (c k : Nat) : List Ieee.Datum := (List.range c).map fun i => if i < k then dV xs ys c i else smF xs ys c xs.length i

theorem rng_set {α : Type} (f : Nat → α) (c k : Nat) (y : α) (h : k < c) : ((List.range c).map f).set k y = (List.range c).map (fun i => if i = k then y else f i) := by
  refine List.ext_getElem (by simp) fun i h1 h2 => ?_
  simp only [List.getElem_set, List.getElem_map, List.getElem_range]
  by_cases hi : k = i
  · subst hi; simp
  · rw [if_neg hi, if_neg (fun e => hi e.symm)]

theorem rng_at {α : Type} (f : Nat → α) (c k : Nat) (h : k < c) : ((List.range c).map f)[k]? = some (f k) := by simp [h]

theorem cnt_le (xs : List Nat) (c : Nat) : ∀ k i, cntF xs c k i ≤ k := by
  intro k
  induction k with
  | zero => intro i; simp [cntF]
  | succ k ih =>
    intro i
    have := ih i
    simp only [cntF]
    split <;> omega

theorem sm_zero (xs ys : List Nat) (c : Nat) : ∀ k i, cntF xs c k i = 0 → smF xs ys c k i = cl .f32 0 := by
  intro k
  induction k with
  | zero => intro i _; rfl
  | succ k ih =>
    intro i h
    simp only [cntF] at h
    simp only [smF]
    split at h
    · omega
    · rename_i hq
      rw [if_neg hq]
      exact ih i h

theorem mnL_succ (xs : List Nat) (c k : Nat) (h : secK (cl .f32 (xs.getD k 0)) c < c) : mnL xs c (k + 1) = (mnL xs c k).set (secK (cl .f32 (xs.getD k 0)) c) (((cntF xs c k (secK (cl .f32 (xs.getD k 0)) c) : Nat) : Int) + 1) := by
  unfold mnL
  rw [rng_set _ _ _ _ h]
  refine List.map_congr_left fun i _ => ?_
  simp only [cntF]
  by_cases hi : i = secK (cl .f32 (xs.getD k 0)) c
  · rw [if_pos hi, if_pos hi, hi]; simp
  · rw [if_neg hi, if_neg hi]

theorem suL_succ (xs ys : List Nat) (c k : Nat) (h : secK (cl .f32 (xs.getD k 0)) c < c) : suL xs ys c (k + 1) = (suL xs ys c k).set (secK (cl .f32 (xs.getD k 0)) c) (fop .add .f32 (smF xs ys c k (secK (cl .f32 (xs.getD k 0)) c)) (cl .f32 (ys.getD k 0))) := by
  unfold suL
  rw [rng_set _ _ _ _ h]
  refine List.map_congr_left fun i _ => ?_
  simp only [smF]
  by_cases hi : i = secK (cl .f32 (xs.getD k 0)) c
  · rw [if_pos hi, if_pos hi, hi]
  · rw [if_neg hi, if_neg hi]

theorem shK_zero (xs : List Nat) (c : Nat) : shK xs c 0 = List.replicate c (cl .f32 0) := by
  unfold shK
  refine List.ext_getElem (by simp) fun i h1 h2 => ?_
  simp

theorem shK_succ (xs : List Nat) (c k : Nat) (h : k < c) : shK xs c (k + 1) = (shK xs c k).set k (dS xs c k) := by
  unfold shK
  rw [rng_set _ _ _ _ h]
  refine List.map_congr_left fun i _ => ?_
  by_cases hi : i = k
  · subst hi; simp
  · rw [if_neg hi]
    by_cases h2 : i < k
    · rw [if_pos h2, if_pos (by omega)]
    · rw [if_neg h2, if_neg (by omega)]

theorem shK_end (xs : List Nat) (c : Nat) : shK xs c c = shL xs c := by
  unfold shK shL
  refine List.map_congr_left fun i hi => ?_
  rw [if_pos (List.mem_range.1 hi)]

theorem spK_zero (xs ys : List Nat) (c : Nat) : spK xs ys c 0 = suL xs ys c xs.length := by
  unfold spK suL
  refine List.map_congr_left fun i hi => ?_
  rw [if_neg (by omega)]

theorem spK_succ (xs ys : List Nat) (c k : Nat) (h : k < c) : spK xs ys c (k + 1) = (spK xs ys c k).set k (dV xs ys c k) := by
  unfold spK
  rw [rng_set _ _ _ _ h]
  refine List.map_congr_left fun i _ => ?_
  by_cases hi : i = k
  · subst hi; simp
  · rw [if_neg hi]
    by_cases h2 : i < k
    · rw [if_pos h2, if_pos (by omega)]
    · rw [if_neg h2, if_neg (by omega)]

theorem spK_same (xs ys : List Nat) (c k : Nat) (h0 : cntF xs c xs.length k = 0) : spK xs ys c (k + 1) = spK xs ys c k := by
  unfold spK
  refine List.map_congr_left fun i _ => ?_
  by_cases hi : i = k
  · subst hi
    rw [if_pos (by omega), if_neg (by omega), sm_zero _ _ _ _ _ h0]
    unfold dV
    rw [if_neg (by omega)]
  · by_cases h2 : i < k
    · rw [if_pos h2, if_pos (by omega)]
    · rw [if_neg h2, if_neg (by omega)]

theorem spK_end (xs ys : List Nat) (c : Nat) : spK xs ys c c = spL xs ys c := by
  unfold spK spL
  refine List.map_congr_left fun i hi => ?_
  rw [if_pos (List.mem_range.1 hi)]

/-- Three rows, and a box in which two of them stand. -/
structure Four (w0 w : World) (bM b1 b2 bb c : Nat) (ms : List Int) (ss us : List Nat) : Prop where
  oM : Own (Value.int .i64) 2 w bM ms
  o1 : Own (Value.float .f32) 23 w b1 ss
  o2 : Own (Value.float .f32) 23 w b2 us
  bx : RoAt w bb (.slice (some ⟨b1, 0, none⟩) c c) (.slice (some ⟨b2, 0, none⟩) c c)
  d1 : bM ≠ b1
  d2 : bM ≠ b2
  d3 : b1 ≠ b2
  d4 : bM ≠ bb
  d5 : b1 ≠ bb
  d6 : b2 ≠ bb
  lM : w0.heap.size ≤ bM
  l1 : w0.heap.size ≤ b1
  l2 : w0.heap.size ≤ b2
  gr : Grew w0 w

section
variable {w0 w : World} {bM b1 b2 bb c : Nat} {ms : List Int} {ss us : List Nat}

theorem Four.drewN (h : Four w0 w bM b1 b2 bb c ms ss us) (n : Nat) : Four w0 (w.drewN n) bM b1 b2 bb c ms ss us :=
  ⟨h.oM, h.o1, h.o2, h.bx, h.d1, h.d2, h.d3, h.d4, h.d5, h.d6, h.lM, h.l1, h.l2, grew_draw _ n h.gr⟩

theorem Four.setM (h : Four w0 w bM b1 b2 bb c ms ss us) (q : Nat) (v : Int) : Four w0 (w.setCell ⟨bM, q, none⟩ (.int .i64 v)) bM b1 b2 bb c (ms.set q v) ss us :=
  ⟨h.oM.set q v, h.o1.set_other (fun e => h.d1 e.symm) q _, h.o2.set_other (fun e => h.d2 e.symm) q _, h.bx.set h.d4 q _, h.d1, h.d2, h.d3, h.d4, h.d5, h.d6, h.lM, h.l1, h.l2, grew_set h.gr h.lM⟩

theorem Four.set1 (h : Four w0 w bM b1 b2 bb c ms ss us) (q : Nat) (v : Nat) : Four w0 (w.setCell ⟨b1, q, none⟩ (.float .f32 v)) bM b1 b2 bb c ms (ss.set q v) us :=
  ⟨h.oM.set_other h.d1 q _, h.o1.set q v, h.o2.set_other (fun e => h.d3 e.symm) q _, h.bx.set h.d5 q _, h.d1, h.d2, h.d3, h.d4, h.d5, h.d6, h.lM, h.l1, h.l2, grew_set h.gr h.l1⟩

theorem Four.set2 (h : Four w0 w bM b1 b2 bb c ms ss us) (q : Nat) (v : Nat) : Four w0 (w.setCell ⟨b2, q, none⟩ (.float .f32 v)) bM b1 b2 bb c ms ss (us.set q v) :=
  ⟨h.oM.set_other h.d2 q _, h.o1.set_other h.d3 q _, h.o2.set q v, h.bx.set h.d6 q _, h.d1, h.d2, h.d3, h.d4, h.d5, h.d6, h.lM, h.l1, h.l2, grew_set h.gr h.l2⟩
end

end Go.Proofs.Ytebhefbpkcpnjaa
