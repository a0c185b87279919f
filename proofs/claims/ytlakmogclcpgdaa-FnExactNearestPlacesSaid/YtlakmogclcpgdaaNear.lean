/-
  PLAIN LAWS for the nearest places: distances are finite; the running least.
-/
import Derived.Test.YtlakmogclcpgdaaDisc2
import Derived.Test.YtlakmogclcpgdaaSqrt
namespace Go.Flt
open Go Ieee
set_option linter.unusedVariables false

/-- The square root of a number that is not below 0 is a number. -/
theorem root_num0 (b : Nat) (hn : isNum (cl .f32 b) = true) (h0 : 0 ≤ iv (-149) (cl .f32 b)) : isNum (nar (sqD (wid (cl .f32 b)))) = true := by
  have h0 : 0 ≤ iv (-1074) (wid (cl .f32 b)) := by
    rw [wid_iv, iv_down hn (-149) (-1074) (by omega) (pl32 b)]
    exact Int.mul_nonneg h0 (Int.natCast_nonneg _)
  have key : ∀ d : Datum, isNum d = true → place (-1074) d → 0 ≤ iv (-1074) d → iv (-1074) d ≤ (tw 1144 : Int) → isNum (nar (rd .f64 d)) = true := by
    intro d nd pd h0 h1
    have nlo : isNum (cl .f64 14404763408144531456) = true := by rw [c_lo]; rfl
    have nhi : isNum (cl .f64 5181391371289755648) = true := by rw [c_hi]; rfl
    have ilo : iv (-1074) (cl .f64 14404763408144531456) = -(6755399441055744 * tw 1149 : Int) := by rw [c_lo, iv_of true _ 75 1149 (by omega)]; simp
    have ihi : iv (-1074) (cl .f64 5181391371289755648) = (6755399441055744 * tw 1149 : Int) := by rw [c_hi, iv_of false _ 75 1149 (by omega)]; simp
    have t1 : (tw 1144 : Int) ≤ (tw 1149 : Int) := by have := tw_le (a := 1144) (b := 1149) (by omega); omega
    have t2 : (0 : Int) < (tw 1149 : Int) := by have := tw_pos 1149; omega
    obtain ⟨nD, d1, d2⟩ := rd_between .f64 nd nlo nhi ((leF_iv nlo nd (place64 _) pd).2 (by rw [ilo]; omega)) ((leF_iv nd nhi pd (place64 _)).2 (by rw [ihi]; omega))
    have pD : place (-1074) (rd .f64 d) := place64 _
    have d1 := (leF_iv nlo nD (place64 _) pD).1 d1
    have d2 := (leF_iv nD nhi pD (place64 _)).1 d2
    rw [nar_rd nD]
    have nlo32 : isNum (cl .f32 4282384384) = true := by rw [c_lo32]; rfl
    have nhi32 : isNum (cl .f32 2134900736) = true := by rw [c_hi32]; rfl
    have ilo32 : iv (-1074) (cl .f32 4282384384) = -(12582912 * tw 1178 : Int) := by rw [c_lo32, iv_of true _ 104 1178 (by omega)]; simp
    have ihi32 : iv (-1074) (cl .f32 2134900736) = (12582912 * tw 1178 : Int) := by rw [c_hi32, iv_of false _ 104 1178 (by omega)]; simp
    have tt : tw 1178 = tw 29 * tw 1149 := tw_add 29 1149
    have t29 : tw 29 = 536870912 := by decide
    rw [t29] at tt
    exact (rd_between .f32 nD nlo32 nhi32 ((leF_iv nlo32 nD (place32 _) pD).2 (by rw [ilo32]; omega)) ((leF_iv nD nhi32 pD (place32 _)).2 (by rw [ihi32]; omega))).1
  have hb := wid_bound b hn
  have hw := wid_isNum b hn
  obtain ⟨w64, hw64⟩ := wid_fix b hn
  have hp : place (-1074) (wid (cl .f32 b)) := by rw [hw64]; exact place64 _
  generalize wid (cl .f32 b) = W at h0 hb hw hp ⊢
  cases W <;> simp only [isNum] at hw <;> first | (cases hw; done) | skip
  rename_i s m i
  by_cases hm : m = 0
  · subst hm
    have e : sqD (.number s 0 i) = rd .f64 (.number s 0 i) := by unfold sqD Datum.root; simp [rnd, rd]
    rw [e]
    refine key _ rfl hp ?_ ?_
    · simp [iv, signed]
    · have := tw_pos 1144; simp [iv, signed]
  · cases s
    · have hi : -1074 ≤ i := hp
      obtain ⟨k, hk⟩ : ∃ k : Nat, i + 1074 = k := ⟨(i + 1074).toNat, by omega⟩
      rw [iv_of false m i k hk] at hb
      have hb1 : m * tw k < tw 1202 := by have := tw_pos 1178; have := hb.1; simp at this; omega
      have hlog : m.log2 + k < 1202 := by
        refine Nat.lt_of_not_le fun hc => ?_
        have a1 := Nat.mul_le_mul_right (tw k) (tw_log hm)
        rw [← tw_add] at a1
        have a2 := tw_le hc
        omega
      obtain ⟨q, T, j, hr, hj, hq, hT⟩ := root_num m i hm hi (by omega)
      have e : sqD (.number false m i) = rd .f64 (.number false q j) := by unfold sqD; rw [hr]; rfl
      rw [e]
      obtain ⟨kj, hkj⟩ : ∃ kj : Nat, j + 1074 = kj := ⟨(j + 1074).toNat, by omega⟩
      refine key _ rfl hj ?_ ?_
      · rw [iv_of false q j kj hkj]; simp; exact Int.mul_nonneg (Int.natCast_nonneg _) (Int.natCast_nonneg _)
      · rw [iv_of false q j kj hkj]
        have a1 : q * tw kj ≤ tw T * tw kj := Nat.mul_le_mul_right _ (Nat.le_of_lt hq)
        rw [← tw_add] at a1
        have a2 := tw_le (a := T + kj) (b := 1144) (by omega)
        simp only [Bool.false_eq_true, if_false]
        omega
    · exfalso
      have hi : -1074 ≤ i := hp
      obtain ⟨k, hk⟩ : ∃ k : Nat, i + 1074 = k := ⟨(i + 1074).toNat, by omega⟩
      rw [iv_of true m i k hk] at h0
      simp only [if_true] at h0
      have : 0 < m * tw k := Nat.mul_pos (Nat.pos_of_ne_zero hm) (tw_pos k)
      omega

theorem add_le {x y : Datum} {c : Nat} (hx : isNum x = true) (hy : isNum y = true) (hc : isNum (cl .f32 c) = true) (px : place (-149) x) (py : place (-149) y) (pc : place (-149) (cl .f32 c))
    (h : iv (-149) x + iv (-149) y ≤ iv (-149) (cl .f32 c)) : leF (fop .add .f32 x y) (cl .f32 c) = true := by
  obtain ⟨d, e, hd, hv⟩ := fop_add (k := .f32) hx hy
  obtain ⟨v1, v2⟩ := hv _ px py
  rw [e]
  have := rd_mono .f32 hd hc (by rw [leF_num (-149) hd hc v1 pc, v2]; exact decide_eq_true h)
  rwa [rd_fix .f32 c hc] at this

theorem sub_le {x y : Datum} {c : Nat} (hx : isNum x = true) (hy : isNum y = true) (hc : isNum (cl .f32 c) = true) (px : place (-149) x) (py : place (-149) y) (pc : place (-149) (cl .f32 c))
    (h : iv (-149) x - iv (-149) y ≤ iv (-149) (cl .f32 c)) : leF (fop .sub .f32 x y) (cl .f32 c) = true := by
  obtain ⟨d, e, hd, hv⟩ := fop_sub (k := .f32) hx hy
  obtain ⟨v1, v2⟩ := hv _ px py
  rw [e]
  have := rd_mono .f32 hd hc (by rw [leF_num (-149) hd hc v1 pc, v2]; exact decide_eq_true h)
  rwa [rd_fix .f32 c hc] at this

theorem mul_le {x y : Datum} {c : Nat} (hx : isNum x = true) (hy : isNum y = true) (hc : isNum (cl .f32 c) = true) (px : place (-149) x) (py : place (-149) y) (pc : place (-149) (cl .f32 c))
    (h : iv (-149) x * iv (-149) y ≤ iv (-149) (cl .f32 c) * t149) : leF (fop .mul .f32 x y) (cl .f32 c) = true := by
  obtain ⟨d, e, hd, hv⟩ := fop_mul (k := .f32) hx hy
  obtain ⟨v1, v2⟩ := hv _ _ px py
  rw [e]
  have pc2 : place (-149 + -149) (cl .f32 c) := by
    cases hcc : cl .f32 c with
    | number s m i => rw [hcc] at pc; have pc : (-149 : Int) ≤ i := pc; show (-149 + -149 : Int) ≤ i; omega
    | nan s t => trivial
    | infinity s => trivial
  have := rd_mono .f32 hd hc (by
    rw [leF_num (-149 + -149) hd hc v1 pc2, v2, iv_down hc (-149) (-149 + -149) (by omega) pc]
    exact decide_eq_true h)
  rwa [rd_fix .f32 c hc] at this

theorem le_iv {x : Datum} {c : Nat} (hx : isNum x = true) (hc : isNum (cl .f32 c) = true) (px : place (-149) x) (h : leF x (cl .f32 c) = true) : iv (-149) x ≤ iv (-149) (cl .f32 c) := by
  rw [leF_num (-149) hx hc px (pl32 c)] at h
  exact of_decide_eq_true h

theorem c_p18 : cl .f32 1216348160 = .number false 8388608 (-5) := by decide +kernel
theorem c_m18 : cl .f32 3363831808 = .number true 8388608 (-5) := by decide +kernel
theorem c_p36 : cl .f32 1367343104 = .number false 8388608 13 := by decide +kernel
theorem c_p37 : cl .f32 1375731712 = .number false 8388608 14 := by decide +kernel

theorem iv149_pow (s : Bool) (k : Nat) (p : Int) (hp : p + 23 = k) : iv (-149) (.number s 8388608 p) = if s then -((2 ^ k : Nat) * t149) else (2 ^ k : Nat) * t149 := by
  obtain ⟨a, ha⟩ : ∃ a : Nat, p + 149 = a := ⟨(p + 149).toNat, by omega⟩
  rw [iv149_of s _ p a ha]
  have e1 : tw 23 * tw a = tw k * tw 149 := by rw [← tw_add, ← tw_add]; congr 1; omega
  have e2 : ((8388608 * tw a : Nat) : Int) = (2 ^ k : Nat) * t149 := by
    rw [show (8388608 : Nat) = tw 23 from rfl, e1]
    unfold t149
    rw [Int.natCast_mul]
    rfl
  rw [e2]

theorem v_p18 : iv (-149) (cl .f32 1216348160) = 262144 * t149 := by rw [c_p18, iv149_pow false 18 _ (by omega)]; rfl
theorem v_m18 : iv (-149) (cl .f32 3363831808) = -(262144 * t149) := by rw [c_m18, iv149_pow true 18 _ (by omega)]; rfl
theorem v_p36 : iv (-149) (cl .f32 1367343104) = 68719476736 * t149 := by rw [c_p36, iv149_pow false 36 _ (by omega)]; rfl
theorem v_p37 : iv (-149) (cl .f32 1375731712) = 137438953472 * t149 := by rw [c_p37, iv149_pow false 37 _ (by omega)]; rfl

/-- A difference of places, squared: from 0 to 2 to the power of 36. -/
theorem sq_bound {x y : Datum} (hx : isNum x = true) (hy : isNum y = true) (px : place (-149) x) (py : place (-149) y) (h1 : -(131072 * t149) ≤ iv (-149) x) (h2 : iv (-149) x ≤ 131072 * t149) (h3 : -(131072 * t149) ≤ iv (-149) y) (h4 : iv (-149) y ≤ 131072 * t149) :
    isNum (fop .mul .f32 (fop .sub .f32 x y) (fop .sub .f32 x y)) = true ∧ 0 ≤ iv (-149) (fop .mul .f32 (fop .sub .f32 x y) (fop .sub .f32 x y)) ∧ iv (-149) (fop .mul .f32 (fop .sub .f32 x y) (fop .sub .f32 x y)) ≤ 68719476736 * t149 := by
  have ht := t149_pos
  have n18 : isNum (cl .f32 1216348160) = true := by rw [c_p18]; rfl
  have m18 : isNum (cl .f32 3363831808) = true := by rw [c_m18]; rfl
  have n36 : isNum (cl .f32 1367343104) = true := by rw [c_p36]; rfl
  have a1 := sub_ge (c := 3363831808) hx hy m18 px py (pl32 _) (by rw [v_m18]; omega)
  have a2 := sub_le (c := 1216348160) hx hy n18 px py (pl32 _) (by rw [v_p18]; omega)
  have nu := num_between m18 n18 a1 a2
  have pu := pl_fop .sub x y
  generalize fop .sub .f32 x y = u at *
  have b1 := ge_iv nu m18 pu a1
  have b2 := le_iv nu n18 pu a2
  rw [v_m18] at b1
  rw [v_p18] at b2
  have s0 : 0 ≤ iv (-149) u * iv (-149) u := by
    rcases Int.le_total 0 (iv (-149) u) with h | h
    · exact Int.mul_nonneg h h
    · have := Int.mul_nonneg (Int.neg_nonneg_of_nonpos h) (Int.neg_nonneg_of_nonpos h)
      rwa [Int.neg_mul_neg] at this
  have s1 : iv (-149) u * iv (-149) u ≤ 68719476736 * t149 * t149 := by
    have key : ∀ v : Int, 0 ≤ v → v ≤ 262144 * t149 → v * v ≤ 68719476736 * t149 * t149 := by
      intro v h1 h2
      have c1 := Int.mul_le_mul_of_nonneg_right h2 h1
      have c2 := Int.mul_le_mul_of_nonneg_left h2 (show (0 : Int) ≤ 262144 * t149 by omega)
      have c3 : 262144 * t149 * (262144 * t149) = 68719476736 * t149 * t149 := by
        rw [Int.mul_assoc 262144, Int.mul_left_comm t149 262144 t149, Int.mul_assoc 68719476736]
        generalize t149 * t149 = T
        omega
      rw [c3] at c2
      omega
    rcases Int.le_total 0 (iv (-149) u) with h | h
    · exact key _ h b2
    · have := key (-iv (-149) u) (Int.neg_nonneg_of_nonpos h) (by omega)
      rwa [Int.neg_mul_neg] at this
  have d1 := mul_ge (c := 0) nu nu num_zero pu pu (pl32 _) (by rw [iv_zero149, Int.zero_mul]; exact s0)
  have d2 := mul_le (c := 1367343104) nu nu n36 pu pu (pl32 _) (by rw [v_p36]; exact s1)
  have nm := num_between num_zero n36 d1 d2
  have e1 := ge_iv nm num_zero (pl_fop _ _ _) d1
  have e2 := le_iv nm n36 (pl_fop _ _ _) d2
  rw [iv_zero149] at e1
  rw [v_p36] at e2
  exact ⟨nm, e1, e2⟩

theorem sum_bound {p q : Datum} (hp : isNum p = true) (hq : isNum q = true) (pp : place (-149) p) (pq : place (-149) q) (p0 : 0 ≤ iv (-149) p) (p1 : iv (-149) p ≤ 68719476736 * t149) (q0 : 0 ≤ iv (-149) q) (q1 : iv (-149) q ≤ 68719476736 * t149) :
    isNum (fop .add .f32 p q) = true ∧ 0 ≤ iv (-149) (fop .add .f32 p q) := by
  have n37 : isNum (cl .f32 1375731712) = true := by rw [c_p37]; rfl
  have d1 := add_ge (c := 0) hp hq num_zero pp pq (pl32 _) (by rw [iv_zero149]; omega)
  have d2 := add_le (c := 1375731712) hp hq n37 pp pq (pl32 _) (by rw [v_p37]; omega)
  have nm := num_between num_zero n37 d1 d2
  have e1 := ge_iv nm num_zero (pl_fop _ _ _) d1
  rw [iv_zero149] at e1
  exact ⟨nm, e1⟩

end Go.Flt
