/-
  PLAIN LAWS: steps of a yaw, in 64ths.
-/
import Derived.Test.YtkippcjifikegaaDy
namespace Go.Proofs.Ytkippcjifikegaa
open Go.RowKit Go.Flt
set_option linter.unusedVariables false
set_option maxRecDepth 100000
set_option linter.unusedSimpArgs false

theorem wrI_id {a : Int} (h1 : -32 ≤ a) (h2 : a ≤ 31) : wrI a = a := by unfold wrI; omega

theorem nxI_in (a b r n : Int) : -32 ≤ nxI a b r n ∧ nxI a b r n ≤ 31 := wrI_in _

theorem nx_near {a b r n : Int} (a1 : -32 ≤ a) (a2 : a ≤ 31) (h : ((wrI (b - a)).natAbs : Int) ≤ n) : nxI a b r n = a := by
  unfold nxI toI
  rw [if_pos h]
  exact wrI_id a1 a2

theorem nx_after {a b r n : Int} (a1 : -32 ≤ a) (a2 : a ≤ 31) (b1 : -32 ≤ b) (b2 : b ≤ 31) (r1 : 0 ≤ r) (r2 : r ≤ 8) (h : ¬ ((wrI (b - a)).natAbs : Int) ≤ n) :
    (((wrI (b - nxI a b r n)).natAbs : Nat) : Int) = max 0 (((wrI (b - a)).natAbs : Int) - r) := by
  unfold nxI toI
  rw [if_neg h]
  obtain ⟨d, hd⟩ : ∃ d, d = wrI (b - a) := ⟨_, rfl⟩
  rw [← hd]
  unfold wrI at hd
  clear h
  by_cases c2 : (d.natAbs : Int) ≤ r
  · rw [if_pos c2]
    unfold wrI
    omega
  · rw [if_neg c2]
    by_cases c3 : 0 < d
    · rw [if_pos c3]
      unfold wrI
      omega
    · rw [if_neg c3]
      unfold wrI
      omega

theorem nx_far {a b r n : Int} (a1 : -32 ≤ a) (a2 : a ≤ 31) (b1 : -32 ≤ b) (b2 : b ≤ 31) (r1 : 0 ≤ r) (r2 : r ≤ 8) : (((wrI (nxI a b r n - a)).natAbs : Nat) : Int) ≤ r := by
  by_cases h : ((wrI (b - a)).natAbs : Int) ≤ n
  · rw [nx_near a1 a2 h]
    unfold wrI
    omega
  · unfold nxI toI
    rw [if_neg h]
    obtain ⟨d, hd⟩ : ∃ d, d = wrI (b - a) := ⟨_, rfl⟩
    rw [← hd]
    unfold wrI at hd
    clear h
    by_cases c2 : (d.natAbs : Int) ≤ r
    · rw [if_pos c2]
      unfold wrI
      omega
    · rw [if_neg c2]
      by_cases c3 : 0 < d
      · rw [if_pos c3]
        unfold wrI
        omega
      · rw [if_neg c3]
        unfold wrI
        omega

/-- Where a yaw stands behind k steps, in 64ths. -/
def ykI (r n : Int) (bs : Nat → Int) (a : Int) : Nat → Int
  | 0 => a
  | k + 1 => nxI (ykI r n bs a k) (bs k) r n

theorem ykI_in (r n : Int) (bs : Nat → Int) {a : Int} (h1 : -32 ≤ a) (h2 : a ≤ 31) (k : Nat) : -32 ≤ ykI r n bs a k ∧ ykI r n bs a k ≤ 31 := by
  cases k with
  | zero => exact ⟨h1, h2⟩
  | succ k => exact nxI_in _ _ _ _

theorem yawR_word {t : Ieee.Datum} (h : isNum (yawR t) = true) : ∃ z, yawR t = cl .f32 z := by
  unfold yawR at h ⊢
  generalize fin t = f at h ⊢
  cases f
  · exact ⟨0, rfl⟩
  · simp only [if_true] at h ⊢
    unfold wrp at h ⊢
    generalize (flt (cl .f32 1056964608) (nar (left (wid t))) || feq (nar (left (wid t))) (cl .f32 1056964608)) = c at h ⊢
    cases c
    · simp only [Bool.false_eq_true, if_false] at h ⊢
      generalize left (wid t) = W at h ⊢
      cases W with
      | nan s t => cases h
      | infinity s => exact ⟨_, rfl⟩
      | number s m i => exact ⟨_, rfl⟩
    · exact ⟨3204448256, rfl⟩

/-- A run, whose winds are 64ths: each place is one, and every step goes through. -/
theorem run_Q {y q m : Nat} {xs : List Nat} {a r n : Int} {bs : Nat → Int} (hy : Q (cl .f32 y) a) (hq : Q (cl .f32 q) r) (hm : Q (cl .f32 m) n) (a1 : -32 ≤ a) (a2 : a ≤ 31) (r1 : 0 ≤ r) (r2 : r ≤ 8)
    (hx : ∀ k, k < xs.length → Q (cl .f32 (xs.getD k 0)) (bs k) ∧ -32 ≤ bs k ∧ bs k ≤ 31) :
    ∀ k, k ≤ xs.length → ∃ z, yk (cl .f32 q) (cl .f32 m) xs (cl .f32 y) k = cl .f32 z ∧ Q (cl .f32 z) (ykI r n bs a k) ∧ (k < xs.length → okK (cl .f32 q) (cl .f32 m) xs (cl .f32 y) k = true) := by
  have step : ∀ k z, k < xs.length → yk (cl .f32 q) (cl .f32 m) xs (cl .f32 y) k = cl .f32 z → Q (cl .f32 z) (ykI r n bs a k) → Q (nxt (cl .f32 z) (cl .f32 (xs.getD k 0)) (cl .f32 q) (cl .f32 m)) (ykI r n bs a (k + 1)) ∧ okK (cl .f32 q) (cl .f32 m) xs (cl .f32 y) k = true := by
    intro k z hk e hz
    obtain ⟨h1, h2, h3⟩ := hx k hk
    obtain ⟨i1, i2⟩ := ykI_in r n bs a1 a2 k
    obtain ⟨n1, n2⟩ := Q.nxt hz h1 hq hm i1 i2 h2 h3 r1 r2
    exact ⟨n1, by unfold okK; rw [e]; exact n2⟩
  intro k
  induction k with
  | zero => intro hk; exact ⟨y, rfl, hy, fun h => (step 0 y h rfl hy).2⟩
  | succ k ih =>
    intro hk
    obtain ⟨z, e, hz, _⟩ := ih (by omega)
    obtain ⟨n1, _⟩ := step k z (by omega) e hz
    have e2 : yk (cl .f32 q) (cl .f32 m) xs (cl .f32 y) (k + 1) = nxt (cl .f32 z) (cl .f32 (xs.getD k 0)) (cl .f32 q) (cl .f32 m) := by
      show nxt (yk (cl .f32 q) (cl .f32 m) xs (cl .f32 y) k) _ _ _ = _
      rw [e]
    have hw : ∃ z2, nxt (cl .f32 z) (cl .f32 (xs.getD k 0)) (cl .f32 q) (cl .f32 m) = cl .f32 z2 := yawR_word n1.num
    obtain ⟨z2, hz2⟩ := hw
    have n2 := n1
    rw [hz2] at n2
    exact ⟨z2, e2.trans hz2, n2, fun h => (step (k + 1) z2 h (e2.trans hz2) n2).2⟩

end Go.Proofs.Ytkippcjifikegaa
