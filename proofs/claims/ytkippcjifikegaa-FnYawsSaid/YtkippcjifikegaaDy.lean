/-
  PLAIN LAWS: 64ths: numbers of 32 and of 64 bits that are whole numbers of 64ths.
-/
import Derived.Test.YtkippcjifikegaaTurned
import Derived.Test.YtkippcjifikegaaRunYaw
import Derived.Test.YtkippcjifikegaaDisc2
namespace Go.Flt
open Go Ieee
set_option linter.unusedVariables false

def okQ (B : Int) (p : Nat) (x : Datum) (k : Int) : Bool := match x with
  | .number s m i => decide (B ≤ i) && decide (signed s m (i - B).toNat = k * ((tw p : Nat) : Int))
  | _ => false

/-- k 64ths, in 32 bits. -/
structure Q (x : Datum) (k : Int) : Prop where
  num : isNum x = true
  pl : place (-149) x
  v : iv (-149) x = k * ((tw 143 : Nat) : Int)

/-- k 64ths, in 64 bits. -/
structure Q64 (x : Datum) (k : Int) : Prop where
  num : isNum x = true
  pl : place (-1074) x
  v : iv (-1074) x = k * ((tw 1068 : Nat) : Int)

theorem Q.of {x : Datum} {k : Int} (h : okQ (-149) 143 x k = true) : Q x k := by
  cases x <;> simp only [okQ] at h <;> first | (cases h; done) | skip
  rename_i s m i
  rw [Bool.and_eq_true, decide_eq_true_eq, decide_eq_true_eq] at h
  exact ⟨rfl, h.1, h.2⟩

theorem Q64.of {x : Datum} {k : Int} (h : okQ (-1074) 1068 x k = true) : Q64 x k := by
  cases x <;> simp only [okQ] at h <;> first | (cases h; done) | skip
  rename_i s m i
  rw [Bool.and_eq_true, decide_eq_true_eq, decide_eq_true_eq] at h
  exact ⟨rfl, h.1, h.2⟩

def wdQ (k : Int) : Nat := FloatKind.f32.encode (.number (decide (k < 0)) k.natAbs (-6))
def wdW (k : Int) : Nat := FloatKind.f64.encode (.number (decide (k < 0)) k.natAbs (-6))

theorem wdQ_all : ∀ n : Fin 1025, okQ (-149) 143 (cl .f32 (wdQ ((n.val : Int) - 512))) ((n.val : Int) - 512) = true := by
  decide +kernel

theorem wdW_all : ∀ n : Fin 1025, okQ (-1074) 1068 (cl .f64 (wdW ((n.val : Int) - 512))) ((n.val : Int) - 512) = true := by
  decide +kernel

theorem wdQ_ok {k : Int} (h1 : -512 ≤ k) (h2 : k ≤ 512) : Q (cl .f32 (wdQ k)) k := by
  have := Q.of (wdQ_all ⟨(k + 512).toNat, by omega⟩)
  have e : (((k + 512).toNat : Nat) : Int) - 512 = k := by omega
  simp only [e] at this
  exact this

theorem wdW_ok {k : Int} (h1 : -512 ≤ k) (h2 : k ≤ 512) : Q64 (cl .f64 (wdW k)) k := by
  have := Q64.of (wdW_all ⟨(k + 512).toNat, by omega⟩)
  have e : (((k + 512).toNat : Nat) : Int) - 512 = k := by omega
  simp only [e] at this
  exact this

theorem mul_le_iff {a b t : Int} (ht : 0 < t) : a * t ≤ b * t ↔ a ≤ b := ⟨fun h => Int.le_of_mul_le_mul_right h ht, fun h => Int.mul_le_mul_of_nonneg_right h (Int.le_of_lt ht)⟩

theorem mul_lt_iff {a b t : Int} (ht : 0 < t) : a * t < b * t ↔ a < b := ⟨fun h => Int.lt_of_mul_lt_mul_right h (Int.le_of_lt ht), fun h => Int.mul_lt_mul_of_pos_right h ht⟩

theorem t143_pos : (0 : Int) < ((tw 143 : Nat) : Int) := by have := tw_pos 143; omega
theorem t1068_pos : (0 : Int) < ((tw 1068 : Nat) : Int) := by have := tw_pos 1068; omega

theorem Q.le {x y : Datum} {a b : Int} (hx : Q x a) (hy : Q y b) : leF x y = decide (a ≤ b) := by
  rw [leF_num (-149) hx.num hy.num hx.pl hy.pl, hx.v, hy.v]
  exact decide_eq_decide.2 (mul_le_iff t143_pos)

theorem Q.lt {x y : Datum} {a b : Int} (hx : Q x a) (hy : Q y b) : flt x y = decide (a < b) := by
  rw [flt_num (-149) hx.num hy.num hx.pl hy.pl, hx.v, hy.v]
  exact decide_eq_decide.2 (mul_lt_iff t143_pos)

theorem Q.eq {x y : Datum} {a b : Int} (hx : Q x a) (hy : Q y b) : feq x y = decide (a = b) := by
  rw [feq_num (-149) hx.num hy.num hx.pl hy.pl, hx.v, hy.v]
  refine decide_eq_decide.2 ⟨fun h => ?_, fun h => by rw [h]⟩
  exact Int.eq_of_mul_eq_mul_right (by have := t143_pos; omega) h

theorem Q64.le {x y : Datum} {a b : Int} (hx : Q64 x a) (hy : Q64 y b) : leF x y = decide (a ≤ b) := by
  rw [leF_num (-1074) hx.num hy.num hx.pl hy.pl, hx.v, hy.v]
  exact decide_eq_decide.2 (mul_le_iff t1068_pos)

theorem Q64.lt {x y : Datum} {a b : Int} (hx : Q64 x a) (hy : Q64 y b) : flt x y = decide (a < b) := by
  rw [flt_num (-1074) hx.num hy.num hx.pl hy.pl, hx.v, hy.v]
  exact decide_eq_decide.2 (mul_lt_iff t1068_pos)

theorem Q.rd {d : Datum} {k : Int} (hd : isNum d = true) (pd : place (-149) d) (v : iv (-149) d = k * ((tw 143 : Nat) : Int)) (h1 : -512 ≤ k) (h2 : k ≤ 512) : Q (rd .f32 d) k := by
  have hw := wdQ_ok h1 h2
  have hq : Q d k := ⟨hd, pd, v⟩
  obtain ⟨r1, r2, r3⟩ := rd_between .f32 hd hw.num hw.num (by rw [hw.le hq]; simp) (by rw [hq.le hw]; simp)
  have p := pl_rd d
  have e2 := ge_iv r1 hw.num p r2
  have e3 := of_decide_eq_true ((leF_num (-149) r1 hw.num p hw.pl).symm.trans r3)
  exact ⟨r1, p, by rw [hw.v] at e2 e3; omega⟩

theorem Q.add {x y : Datum} {a b : Int} (hx : Q x a) (hy : Q y b) (h1 : -512 ≤ a + b) (h2 : a + b ≤ 512) : Q (fop .add .f32 x y) (a + b) := by
  obtain ⟨d, e, hd, hv⟩ := fop_add (k := .f32) hx.num hy.num
  obtain ⟨v1, v2⟩ := hv _ hx.pl hy.pl
  rw [e]
  exact Q.rd hd v1 (by rw [v2, hx.v, hy.v, Int.add_mul]) h1 h2

theorem Q.sub {x y : Datum} {a b : Int} (hx : Q x a) (hy : Q y b) (h1 : -512 ≤ a - b) (h2 : a - b ≤ 512) : Q (fop .sub .f32 x y) (a - b) := by
  obtain ⟨d, e, hd, hv⟩ := fop_sub (k := .f32) hx.num hy.num
  obtain ⟨v1, v2⟩ := hv _ hx.pl hy.pl
  rw [e]
  exact Q.rd hd v1 (by rw [v2, hx.v, hy.v, Int.sub_mul]) h1 h2

theorem Q64.rd {d : Datum} {k : Int} (hd : isNum d = true) (pd : place (-1074) d) (v : iv (-1074) d = k * ((tw 1068 : Nat) : Int)) (h1 : -512 ≤ k) (h2 : k ≤ 512) : Q64 (Go.Flt.rd .f64 d) k := by
  have hw := wdW_ok h1 h2
  have hq : Q64 d k := ⟨hd, pd, v⟩
  obtain ⟨r1, r2, r3⟩ := rd_between .f64 hd hw.num hw.num (by rw [hw.le hq]; simp) (by rw [hq.le hw]; simp)
  have p : place (-1074) (Go.Flt.rd .f64 d) := place64 _
  have e2 := of_decide_eq_true ((leF_num (-1074) hw.num r1 hw.pl p).symm.trans r2)
  have e3 := of_decide_eq_true ((leF_num (-1074) r1 hw.num p hw.pl).symm.trans r3)
  exact ⟨r1, p, by rw [hw.v] at e2 e3; omega⟩

theorem Q64.sub {x y : Datum} {a b : Int} (hx : Q64 x a) (hy : Q64 y b) (h1 : -512 ≤ a - b) (h2 : a - b ≤ 512) : Q64 (fop .sub .f64 x y) (a - b) := by
  obtain ⟨d, e, hd, hv⟩ := fop_sub (k := .f64) hx.num hy.num
  obtain ⟨v1, v2⟩ := hv _ hx.pl hy.pl
  rw [e]
  exact Q64.rd hd v1 (by rw [v2, hx.v, hy.v, Int.sub_mul]) h1 h2

theorem Q.zero : Q (cl .f32 0) 0 := Q.of (by decide +kernel)
theorem Q64.zero : Q64 (cl .f64 0) 0 := Q64.of (by decide +kernel)

theorem Q.abs {x : Datum} {a : Int} (hx : Q x a) : Q (absD x) a.natAbs := by
  unfold absD
  rw [hx.lt Q.zero]
  by_cases h : a < 0
  · rw [decide_eq_true h, if_pos rfl, opp_opposite hx.num]
    obtain ⟨o1, o2⟩ := opp_num hx.num
    obtain ⟨o3, o4⟩ := o2 _ hx.pl
    refine ⟨o1, o3, ?_⟩
    rw [o4, hx.v]
    have : ((a.natAbs : Nat) : Int) = -a := by omega
    rw [this, Int.neg_mul]
  · rw [decide_eq_false h, if_neg (by simp)]
    have : ((a.natAbs : Nat) : Int) = a := by omega
    exact ⟨hx.num, hx.pl, by rw [this]; exact hx.v⟩

/-- What is widened keeps its value. -/
theorem Q.wid {b : Nat} {a : Int} (hx : Q (cl .f32 b) a) : Q64 (wid (cl .f32 b)) a := by
  obtain ⟨w, hw⟩ := wid_fix b hx.num
  have hv := wid_iv b
  have e : ((tw 143 : Nat) : Int) * ((2 ^ 925 : Nat) : Int) = ((tw 1068 : Nat) : Int) := by
    rw [← Int.natCast_mul, tw_eq 925, ← tw_add]
  rw [iv_down hx.num (-149) (-1074) (by omega) (pl32 b), show ((-149 : Int) - -1074).toNat = 925 from rfl, hx.v, Int.mul_assoc, e] at hv
  exact ⟨wid_isNum b hx.num, by rw [hw]; exact place64 _, hv⟩

/-- The word of so many 64ths, but for a nought with a sign. -/
theorem Q.word {b : Nat} {k : Int} (hx : Q (cl .f32 b) k) (h1 : -512 ≤ k) (h2 : k ≤ 512) : cl .f32 b = cl .f32 (wdQ k) ∨ k = 0 ∧ cl .f32 b = cl .f32 2147483648 := by
  have hw := wdQ_ok h1 h2
  have hsg : ∀ {x : Datum}, Q x k → (0 < k → x.neg = false) ∧ (k < 0 → x.neg = true) := by
    intro x hq
    have tp := t143_pos
    obtain ⟨n, p, v⟩ := hq
    cases x <;> simp only [isNum] at n <;> first | (cases n; done) | skip
    rename_i s m i
    have sg : iv (-149) (.number s m i) = (if s then -1 else 1) * ((m * 2 ^ (i - -149).toNat : Nat) : Int) := by simp only [iv]; rw [signed_eq]
    rw [sg] at v
    have hp := Int.natCast_nonneg (m * 2 ^ (i - -149).toNat)
    constructor
    · intro hk
      have := Int.mul_pos hk tp
      cases s
      · rfl
      · simp only [if_true] at v; omega
    · intro hk
      have : k * ((tw 143 : Nat) : Int) < 0 := Int.mul_neg_of_neg_of_pos hk tp
      cases s
      · simp only [Bool.false_eq_true, if_false] at v; omega
      · rfl
  rcases Int.lt_trichotomy k 0 with h | h | h
  · exact .inl (cl_eq_of (by rw [hx.eq hw]; simp) (by rw [(hsg hx).2 h, (hsg hw).2 h]))
  · subst h
    have hz : wdQ 0 = 0 := by decide +kernel
    cases hn : (cl .f32 b).neg
    · refine .inl (cl_eq_of (by rw [hx.eq hw]; simp) ?_)
      rw [hn, hz]
      decide +kernel
    · refine .inr ⟨rfl, cl_eq_of ?_ ?_⟩
      · have h0 : Q (cl .f32 2147483648) 0 := Q.of (by decide +kernel)
        rw [hx.eq h0]
        simp
      · rw [hn]
        decide +kernel
  · exact .inl (cl_eq_of (by rw [hx.eq hw]; simp) (by rw [(hsg hx).1 h, (hsg hw).1 h]))

end Go.Flt

namespace Go.Proofs.Ytkippcjifikegaa
open Go.RowKit Go.Flt
set_option linter.unusedVariables false
set_option maxRecDepth 100000
set_option linter.unusedSimpArgs false

/-- So many 64ths, without whole turns. -/
def wrI (k : Int) : Int := (k + 32) % 64 - 32

theorem wrp_all : ∀ n : Fin 513, okQ (-149) 143 (wrp (cl .f32 (wdQ ((n.val : Int) - 256)))) (wrI ((n.val : Int) - 256)) = true := by
  decide +kernel

theorem Q.wrp {b : Nat} {k : Int} (hx : Q (cl .f32 b) k) (h1 : -256 ≤ k) (h2 : k ≤ 256) : Q (wrp (cl .f32 b)) (wrI k) := by
  rcases hx.word (by omega) (by omega) with h | ⟨rfl, h⟩
  · rw [h]
    have := Q.of (wrp_all ⟨(k + 256).toNat, by omega⟩)
    have e : (((k + 256).toNat : Nat) : Int) - 256 = k := by omega
    simp only [e] at this
    exact this
  · rw [h]
    exact Q.of (by decide +kernel)

def toI (a d r n : Int) : Int := if (d.natAbs : Int) ≤ n then a else if (d.natAbs : Int) ≤ r then a + d else if 0 < d then a + r else a - r

/-- A step of a yaw, in 64ths. -/
def nxI (a b r n : Int) : Int := wrI (toI a (wrI (b - a)) r n)

theorem wrI_in (k : Int) : -32 ≤ wrI k ∧ wrI k ≤ 31 := by unfold wrI; omega

theorem Q.nxt {y x q m : Nat} {a b r n : Int} (hy : Q (cl .f32 y) a) (hx : Q (cl .f32 x) b) (hq : Q (cl .f32 q) r) (hm : Q (cl .f32 m) n) (a1 : -32 ≤ a) (a2 : a ≤ 31) (b1 : -32 ≤ b) (b2 : b ≤ 31) (r1 : 0 ≤ r) (r2 : r ≤ 8) :
    Q (Proofs.Ytkippcjifikegaa.nxt (cl .f32 y) (cl .f32 x) (cl .f32 q) (cl .f32 m)) (nxI a b r n) ∧ okS (cl .f32 y) (cl .f32 x) (cl .f32 q) (cl .f32 m) = true := by
  have hs := hx.sub hy (by omega) (by omega)
  obtain ⟨z, hz⟩ := num_word hs.num
  have hd : Q (Proofs.Ytkippcjifikegaa.wrp (fop .sub .f32 (cl .f32 x) (cl .f32 y))) (wrI (b - a)) := by
    rw [hz] at hs ⊢
    exact Q.wrp hs (by omega) (by omega)
  have hwi := wrI_in (b - a)
  have key : ∃ t, Q (cl .f32 t) (toI a (wrI (b - a)) r n) ∧ yawTo (cl .f32 y) (Proofs.Ytkippcjifikegaa.wrp (fop .sub .f32 (cl .f32 x) (cl .f32 y))) (cl .f32 q) (cl .f32 m) = cl .f32 t := by
    unfold yawTo toI
    rw [hd.abs.le hm, hd.abs.le hq, Q.zero.lt hd]
    generalize wrI (b - a) = d at *
    by_cases c1 : (d.natAbs : Int) ≤ n
    · rw [decide_eq_true c1, if_pos rfl, if_pos c1]
      exact ⟨y, hy, rfl⟩
    · rw [decide_eq_false c1, if_neg c1, if_neg Bool.false_ne_true]
      by_cases c2 : (d.natAbs : Int) ≤ r
      · rw [decide_eq_true c2, if_pos rfl, if_pos c2]
        have h := hy.add hd (by omega) (by omega)
        obtain ⟨t, ht⟩ := num_word h.num
        exact ⟨t, by rw [← ht]; exact h, ht⟩
      · rw [decide_eq_false c2, if_neg c2, if_neg Bool.false_ne_true]
        by_cases c3 : 0 < d
        · rw [decide_eq_true c3, if_pos rfl, if_pos c3]
          have h := hy.add hq (by omega) (by omega)
          obtain ⟨t, ht⟩ := num_word h.num
          exact ⟨t, by rw [← ht]; exact h, ht⟩
        · rw [decide_eq_false c3, if_neg c3, if_neg Bool.false_ne_true]
          have h := hy.sub hq (by omega) (by omega)
          obtain ⟨t, ht⟩ := num_word h.num
          exact ⟨t, by rw [← ht]; exact h, ht⟩
  obtain ⟨t, ht, e⟩ := key
  have hti : -256 ≤ toI a (wrI (b - a)) r n ∧ toI a (wrI (b - a)) r n ≤ 256 := by unfold toI; split <;> (try split) <;> (try split) <;> omega
  constructor
  · unfold Proofs.Ytkippcjifikegaa.nxt yawR
    rw [e, fin_eq, ht.num, if_pos rfl]
    exact Q.wrp ht hti.1 hti.2
  · unfold okS
    rw [e, fin_eq, fin_eq, fin_eq, hx.num, hs.num, ht.num]
    rfl

end Go.Proofs.Ytkippcjifikegaa
