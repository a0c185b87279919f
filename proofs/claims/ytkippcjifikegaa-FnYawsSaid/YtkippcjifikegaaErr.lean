/-
  PLAIN LAWS OF FLOATS: how far rounding moves a number.
-/
import Derived.Test.YtkippcjifikegaaFlo
namespace Go.Flt
open Go Ieee

theorem rne_err (n : Nat) {g : Nat} (hg : 0 < g) : 2 * (rne n g * g) ≤ 2 * n + g ∧ 2 * n ≤ 2 * (rne n g * g) + g := by
  unfold rne
  have h1 := Nat.div_add_mod n g
  rw [Nat.mul_comm] at h1
  split
  · rw [Nat.add_mul]
    rename_i h
    generalize n / g * g = u at *
    have := Nat.mod_lt n hg
    omega
  · rw [Nat.add_zero]
    generalize n / g * g = u at *
    omega

theorem vN_rgN (f : Format) (l N : Nat) (h0 : 0 < N) : vN f (rgN f.fractionBits l N) * 2 ^ l = rne N (2 ^ lastN f.fractionBits l N) * 2 ^ lastN f.fractionBits l N := by
  have hbin : f.binade = 2 ^ f.fractionBits := rfl
  have hp := Nat.two_pow_pos
  have hN : N < 2 ^ (N.log2 + 1) := Nat.lt_log2_self
  have hM : 2 ^ N.log2 ≤ N := Nat.log2_self_le (by omega)
  have a1 : rne N (2 ^ lastN f.fractionBits l N) ≤ 2 * 2 ^ f.fractionBits := by
    refine rne_le (hp _) ?_
    have : 2 ^ (N.log2 + 1) ≤ 2 ^ (lastN f.fractionBits l N + (f.fractionBits + 1)) := Nat.pow_le_pow_right (by omega) (by unfold lastN; omega)
    have e : 2 ^ (lastN f.fractionBits l N + (f.fractionBits + 1)) = 2 ^ lastN f.fractionBits l N * (2 * 2 ^ f.fractionBits) := by rw [Nat.pow_add 2 _ (f.fractionBits + 1), Nat.pow_succ 2 f.fractionBits, Nat.mul_comm (2 ^ f.fractionBits) 2]
    omega
  have a2 : l < lastN f.fractionBits l N → 2 ^ f.fractionBits ≤ rne N (2 ^ lastN f.fractionBits l N) := by
    intro hl
    refine le_rne (hp _) ?_
    rw [← Nat.pow_add]
    refine Nat.le_trans (Nat.pow_le_pow_right (by omega) ?_) hM
    unfold lastN at *
    omega
  have a3 : l ≤ lastN f.fractionBits l N := by unfold lastN; omega
  obtain ⟨c, hc⟩ : ∃ c, lastN f.fractionBits l N = l + c := ⟨_, (Nat.add_sub_of_le a3).symm⟩
  unfold rgN
  rw [hc] at a1 a2 ⊢
  generalize rne N (2 ^ (l + c)) = q at *
  have e1 : l + c - l = c := by omega
  rw [e1, Nat.pow_add, Nat.mul_comm (2 ^ l), ← Nat.mul_assoc]
  congr 1
  unfold vN
  rw [hbin]
  have hb := hp f.fractionBits
  generalize 2 ^ f.fractionBits = b at *
  by_cases h1 : c * b + q < b
  · rw [if_pos h1]
    have : c = 0 := by
      rcases Nat.eq_zero_or_pos c with h | h
      · exact h
      · have : 1 * b ≤ c * b := Nat.mul_le_mul_right b h
        omega
    subst this
    simp
  · rw [if_neg h1]
    have hq : b ≤ q := by
      rcases Nat.eq_zero_or_pos c with rfl | h
      · omega
      · exact a2 (by omega)
    rcases Nat.lt_or_ge q (2 * b) with h2 | h2
    · have e : c * b + q = b * (c + 1) + (q - b) := by rw [Nat.mul_add, Nat.mul_comm c b]; omega
      have d1 : (c * b + q) / b = c + 1 := by rw [e, Nat.mul_add_div hb, Nat.div_eq_of_lt (by omega)]
      have d2 : (c * b + q) % b = q - b := by rw [e, Nat.mul_add_mod, Nat.mod_eq_of_lt (by omega)]
      rw [d1, d2]
      congr 1
      omega
    · have hq2 : q = 2 * b := by omega
      subst hq2
      have e : c * b + 2 * b = b * (c + 2) := by rw [Nat.mul_add, Nat.mul_comm c b, Nat.mul_comm 2 b]
      have d1 : (c * b + 2 * b) / b = c + 2 := by rw [e, Nat.mul_div_cancel_left _ hb]
      have d2 : (c * b + 2 * b) % b = 0 := by rw [e, Nat.mul_mod_right]
      rw [d1, d2]
      have : c + 2 - 1 = c + 1 := by omega
      rw [this, Nat.pow_succ, Nat.add_zero, Nat.mul_comm (2 ^ c) 2, ← Nat.mul_assoc, Nat.mul_comm b 2]

theorem last_le (fb l N : Nat) (h0 : 0 < N) : 2 ^ lastN fb l N * 2 ^ fb ≤ max N (2 ^ (l + fb)) := by
  rw [← Nat.pow_add]
  have hM : 2 ^ N.log2 ≤ N := Nat.log2_self_le (by omega)
  unfold lastN
  rcases Nat.lt_or_ge (N.log2) (l + fb) with h | h
  · have : max (N.log2 - fb) l + fb = l + fb := by omega
    rw [this]; omega
  · have : max (N.log2 - fb) l + fb = N.log2 := by omega
    rw [this]; omega

/-- HOW FAR ROUNDING MOVES A NUMBER: by no more than half a unit of its last place. -/
theorem rd_err (k : FloatKind) (s : Bool) (m : Nat) (p B : Int) (h1 : B ≤ p) (h2 : B ≤ k.format.leastPlace) (hr : isNum (rd k (.number s m p)) = true) :
    ∃ N R E : Nat, iv B (.number s m p) = (if s then -(N : Int) else N) ∧ iv B (rd k (.number s m p)) = (if s then -(R : Int) else R) ∧ place B (rd k (.number s m p)) ∧
      R ≤ N + E ∧ N ≤ R + E ∧ 2 * 2 ^ k.format.fractionBits * E ≤ max N (2 ^ ((k.format.leastPlace - B).toNat + k.format.fractionBits)) := by
  by_cases hm : m = 0
  · subst hm
    rw [rd_num] at hr ⊢
    have : rung k.format (.number s 0 p) = 0 := by simp [rung]
    rw [this]
    refine ⟨0, 0, 0, ?_, ?_, ?_, by omega, by omega, by omega⟩
    · cases s <;> simp [iv, signed]
    · have hlt : 0 < k.format.infRung := by cases k <;> decide
      have hb : 0 < k.format.binade := Nat.two_pow_pos _
      rw [read_rung _ s hlt, if_pos hb]
      cases s <;> simp [iv, signed]
    · have hlt : 0 < k.format.infRung := by cases k <;> decide
      rw [read_rung _ s hlt]
      split
      · exact h2
      · show B ≤ _
        omega
  · have hl := rung_le k.format (.number s m p)
    have hb := rung_base k.format s hm p B h1 h2
    rw [rd_num] at hr ⊢
    have hN : 0 < m * 2 ^ (p - B).toNat := Nat.mul_pos (by omega) (Nat.two_pow_pos _)
    have hr2 : rung k.format (.number s m p) ≠ k.format.infRung := by
      intro h
      rw [h, read_inf _ (fmt_inf k)] at hr
      cases hr
    have hrg : rung k.format (.number s m p) = rgN k.format.fractionBits (k.format.leastPlace - B).toNat (m * 2 ^ (p - B).toNat) := by omega
    have hlt : rung k.format (.number s m p) < k.format.infRung := by omega
    have hv := vN_rgN k.format (k.format.leastPlace - B).toNat _ hN
    rw [← hrg] at hv
    have he := rne_err (m * 2 ^ (p - B).toNat) (Nat.two_pow_pos (lastN k.format.fractionBits (k.format.leastPlace - B).toNat (m * 2 ^ (p - B).toNat)))
    have hm2 := last_le k.format.fractionBits (k.format.leastPlace - B).toNat _ hN
    have hi := iv_rung k.format s hlt
    have hrd : ∃ a j, k.format.read (k.format.word s (rung k.format (.number s m p))) = .number s a j ∧ k.format.leastPlace ≤ j := by
      rw [read_rung _ s hlt]
      split
      · exact ⟨_, _, rfl, by omega⟩
      · exact ⟨_, _, rfl, by omega⟩
    obtain ⟨a, j, hj, hjl⟩ := hrd
    rw [hj] at hi ⊢
    generalize rung k.format (.number s m p) = r at *
    generalize lastN k.format.fractionBits (k.format.leastPlace - B).toNat (m * 2 ^ (p - B).toNat) = t at *
    rw [← hv] at he
    have hsh := iv_shift B s a j k.format.leastPlace h2 hjl
    have hi' : signed s a (j - k.format.leastPlace).toNat = if s then -(vN k.format r : Int) else vN k.format r := hi
    refine ⟨m * 2 ^ (p - B).toNat, vN k.format r * 2 ^ (k.format.leastPlace - B).toNat, 2 ^ t / 2, ?_, ?_, ?_, ?_, ?_, ?_⟩
    · simp only [iv, signed, Nat.shiftLeft_eq]
    · show signed s a (j - B).toNat = _
      rw [← hsh, hi']
      cases s <;> simp [Int.neg_mul]
    · show B ≤ j
      omega
    · omega
    · omega
    · have : 2 * 2 ^ k.format.fractionBits * (2 ^ t / 2) ≤ 2 ^ t * 2 ^ k.format.fractionBits := by
        rw [Nat.mul_comm 2, Nat.mul_assoc, Nat.mul_comm (2 ^ t)]
        exact Nat.mul_le_mul_left _ (Nat.mul_div_le _ _)
      omega

theorem err64 {d : Datum} (hd : isNum d = true) (hp : place (-1074) d) (hr : isNum (rd .f64 d) = true) :
    (iv (-1074) (rd .f64 d) - iv (-1074) d).natAbs * tw 53 ≤ max (iv (-1074) d).natAbs (tw 52) := by
  cases d <;> simp only [isNum] at hd <;> first | (cases hd; done) | skip
  rename_i s m p
  obtain ⟨N, R, E, hN, hR, _, h1, h2, h3⟩ := rd_err .f64 s m p (-1074) hp (by decide) hr
  have e1 : 2 * 2 ^ FloatKind.f64.format.fractionBits = tw 53 := by unfold tw; rfl
  have e2 : 2 ^ ((FloatKind.f64.format.leastPlace - (-1074)).toNat + FloatKind.f64.format.fractionBits) = tw 52 := by unfold tw; rfl
  rw [e1, e2] at h3
  rw [hN, hR]
  have h4 : (( if s = true then -(R : Int) else R) - if s = true then -(N : Int) else N).natAbs ≤ E := by cases s <;> simp <;> omega
  have h5 : (if s = true then -(N : Int) else N).natAbs = N := by cases s <;> simp
  rw [h5]
  have := Nat.mul_le_mul_right (tw 53) h4
  rw [Nat.mul_comm (tw 53)] at h3
  omega

theorem err32 {d : Datum} (hd : isNum d = true) (hp : place (-1074) d) (hr : isNum (rd .f32 d) = true) :
    place (-1074) (rd .f32 d) ∧ (iv (-1074) (rd .f32 d) - iv (-1074) d).natAbs * tw 24 ≤ max (iv (-1074) d).natAbs (tw 948) := by
  cases d <;> simp only [isNum] at hd <;> first | (cases hd; done) | skip
  rename_i s m p
  obtain ⟨N, R, E, hN, hR, hpl, h1, h2, h3⟩ := rd_err .f32 s m p (-1074) hp (by decide) hr
  refine ⟨hpl, ?_⟩
  have e1 : 2 * 2 ^ FloatKind.f32.format.fractionBits = tw 24 := by unfold tw; rfl
  have e2 : tw ((FloatKind.f32.format.leastPlace - (-1074)).toNat + FloatKind.f32.format.fractionBits) = tw 948 := congrArg tw (by decide)
  rw [e1, tw_eq, e2] at h3
  rw [hN, hR]
  have h4 : (( if s = true then -(R : Int) else R) - if s = true then -(N : Int) else N).natAbs ≤ E := by cases s <;> simp <;> omega
  have h5 : (if s = true then -(N : Int) else N).natAbs = N := by cases s <;> simp
  rw [h5]
  have := Nat.mul_le_mul_right (tw 24) h4
  rw [Nat.mul_comm (tw 24)] at h3
  omega

end Go.Flt
