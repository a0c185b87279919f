/-
  PLAIN LAWS OF FLOATS: rounding keeps order.
-/
import Derived.Test.YtkippcjifikegaaPure
namespace Go.Flt
open Go Ieee

/-- The nearest whole number, ties to even. -/
def rne (n g : Nat) : Nat := n / g + if g < 2 * (n % g) ∨ (g = 2 * (n % g) ∧ n / g % 2 = 1) then 1 else 0

theorem cut_rne (s : Bool) (n drop : Nat) : Toward.even.cut s n drop = rne n (2 ^ drop) := by
  have hn : n < 2 ^ (n.log2 + 1) := Nat.lt_log2_self
  unfold Toward.cut rne
  simp only [Nat.one_shiftLeft]
  by_cases h : drop ≤ n.log2 + 2
  · rw [Nat.min_eq_left h]
    congr 1
    by_cases h1 : 2 ^ drop < 2 * (n % 2 ^ drop)
    · simp [h1]
    · by_cases h2 : 2 ^ drop = 2 * (n % 2 ^ drop) ∧ n / 2 ^ drop % 2 = 1
      · rw [if_pos (.inr h2)]
        simp [← h2.1, h2.2]
      · rw [if_neg (by rintro (h | h); exact h1 h; exact h2 h)]
        simp only [not_and] at h2
        simp only [decide_eq_false h1, Bool.false_or]
        by_cases h3 : 2 ^ drop = 2 * (n % 2 ^ drop)
        · simp [h2 h3]
        · simp [h3]
  · have h' : n.log2 + 2 ≤ drop := by omega
    rw [Nat.min_eq_right h']
    have e1 : 2 ^ (n.log2 + 2) = 2 * 2 ^ (n.log2 + 1) := by rw [Nat.pow_succ]; omega
    have e2 : 2 ^ (n.log2 + 2) ≤ 2 ^ drop := Nat.pow_le_pow_right (by omega) h'
    generalize 2 ^ (n.log2 + 1) = u at *
    generalize 2 ^ drop = g at *
    rw [e1] at e2 ⊢
    have d1 : n / (2 * u) = 0 := Nat.div_eq_of_lt (by omega)
    have d2 : n / g = 0 := Nat.div_eq_of_lt (by omega)
    have m1 : n % (2 * u) = n := Nat.mod_eq_of_lt (by omega)
    have m2 : n % g = n := Nat.mod_eq_of_lt (by omega)
    rw [d1, d2, m1, m2, if_neg (by omega)]
    have : ¬ (2 * u < 2 * n) := by omega
    have : ¬ (2 * u = 2 * n) := by omega
    simp [*]

theorem rne_mono {n m g : Nat} (_hg : 0 < g) (h : n ≤ m) : rne n g ≤ rne m g := by
  unfold rne
  have h1 := Nat.div_add_mod n g
  have h2 := Nat.div_add_mod m g
  have h3 : n / g ≤ m / g := Nat.div_le_div_right h
  rcases Nat.lt_or_ge (n / g) (m / g) with h4 | h4
  · split <;> split <;> omega
  · have h5 : n / g = m / g := by omega
    rw [h5] at h1 ⊢
    split <;> split <;> omega

theorem rne_scale (n g k : Nat) (hk : 0 < k) : rne (n * k) (g * k) = rne n g := by
  unfold rne
  rw [Nat.mul_div_mul_right _ _ hk, Nat.mul_mod_mul_right]
  have e : ∀ a b : Nat, (a * k < 2 * (b * k)) = (a < 2 * b) := fun a b => by
    rw [← Nat.mul_assoc]
    simp [Nat.mul_lt_mul_right hk]
  have e' : ∀ a b : Nat, (a * k = 2 * (b * k)) = (a = 2 * b) := fun a b => by
    rw [← Nat.mul_assoc]
    simp [Nat.mul_left_inj (Nat.ne_of_gt hk)]
  simp only [e, e']

theorem rne_le {n g t : Nat} (hg : 0 < g) (h : n ≤ g * t) : rne n g ≤ t := by
  have h1 := rne_mono hg h
  have h2 : rne (g * t) g = t := by
    unfold rne
    rw [Nat.mul_mod_right, Nat.mul_div_cancel_left _ hg, if_neg (by omega)]
    rfl
  omega

theorem le_rne {n g t : Nat} (hg : 0 < g) (h : g * t ≤ n) : t ≤ rne n g := by
  have h1 := rne_mono hg h
  have h2 : rne (g * t) g = t := by
    unfold rne
    rw [Nat.mul_mod_right, Nat.mul_div_cancel_left _ hg, if_neg (by omega)]
    rfl
  omega

def lastN (fb l N : Nat) : Nat := max (N.log2 - fb) l

/-- The rung of a number of so many units, l of them below the least place. -/
def rgN (fb l N : Nat) : Nat := (lastN fb l N - l) * 2 ^ fb + rne N (2 ^ lastN fb l N)

theorem log2_mono {n m : Nat} (h0 : 0 < n) (h : n ≤ m) : n.log2 ≤ m.log2 := by
  rw [Nat.le_log2 (by omega)]
  exact Nat.le_trans (Nat.log2_self_le (by omega)) h

theorem rgN_mono {fb l N M : Nat} (h0 : 0 < N) (h : N ≤ M) : rgN fb l N ≤ rgN fb l M := by
  have hl := log2_mono h0 h
  unfold rgN
  have h1 : lastN fb l N ≤ lastN fb l M := by unfold lastN; omega
  have hN : N < 2 ^ (N.log2 + 1) := Nat.lt_log2_self
  have hM : 2 ^ M.log2 ≤ M := Nat.log2_self_le (by omega)
  have hp := Nat.two_pow_pos
  rcases Nat.lt_or_ge (lastN fb l N) (lastN fb l M) with h2 | h2
  · have a1 : rne N (2 ^ lastN fb l N) ≤ 2 * 2 ^ fb := by
      refine rne_le (hp _) ?_
      have : 2 ^ (N.log2 + 1) ≤ 2 ^ (lastN fb l N + (fb + 1)) := Nat.pow_le_pow_right (by omega) (by unfold lastN; omega)
      have e : 2 ^ (lastN fb l N + (fb + 1)) = 2 ^ lastN fb l N * (2 * 2 ^ fb) := by rw [Nat.pow_add 2 _ (fb + 1), Nat.pow_succ 2 fb, Nat.mul_comm (2 ^ fb) 2]
      omega
    have a2 : 2 ^ fb ≤ rne M (2 ^ lastN fb l M) := by
      refine le_rne (hp _) ?_
      rw [← Nat.pow_add]
      refine Nat.le_trans (Nat.pow_le_pow_right (by omega) ?_) hM
      unfold lastN at *
      omega
    have a3 : l ≤ lastN fb l N := by unfold lastN; omega
    obtain ⟨c, hc⟩ : ∃ c, lastN fb l M = lastN fb l N + 1 + c := ⟨lastN fb l M - lastN fb l N - 1, by omega⟩
    rw [hc] at a2 ⊢
    have e1 : lastN fb l N + 1 + c - l = (lastN fb l N - l) + 1 + c := by omega
    rw [e1, Nat.add_mul, Nat.add_mul]
    generalize (lastN fb l N - l) * 2 ^ fb = u
    generalize c * 2 ^ fb = v
    omega
  · have h3 : lastN fb l N = lastN fb l M := by omega
    rw [h3]
    have := rne_mono (hp (lastN fb l M)) h
    omega

theorem log2_shift (m a : Nat) (hm : m ≠ 0) : (m * 2 ^ a).log2 = m.log2 + a := by
  induction a with
  | zero => simp
  | succ a ih =>
    rw [Nat.pow_succ, ← Nat.mul_assoc, Nat.mul_comm _ 2, Nat.log2_two_mul (by have := Nat.two_pow_pos a; exact Nat.mul_ne_zero hm (by omega)), ih]
    omega

theorem nearest_rg (f : Format) (neg : Bool) {mag : Nat} (hm : mag ≠ 0) (p : Int) (B : Int) (h1 : B ≤ p) (h2 : B ≤ f.leastPlace) :
    f.nearest neg mag p = f.word neg (min (rgN f.fractionBits (f.leastPlace - B).toNat (mag * 2 ^ (p - B).toNat)) f.infRung) := by
  unfold Format.nearest
  rw [if_neg hm]
  simp only [cut_rne, Nat.shiftLeft_eq]
  unfold rgN
  have hl : (mag * 2 ^ (p - B).toNat).log2 = mag.log2 + (p - B).toNat := log2_shift _ _ hm
  generalize hL : max (p + (mag.log2 : Int) - f.fractionBits) f.leastPlace = L
  have hLN : lastN f.fractionBits (f.leastPlace - B).toNat (mag * 2 ^ (p - B).toNat) = (L - B).toNat := by
    unfold lastN
    rw [hl]
    omega
  rw [hLN]
  congr 2
  have e1 : (L - B).toNat - (f.leastPlace - B).toNat = (L - f.leastPlace).toNat := by omega
  rw [e1]
  congr 1
  by_cases hc : L ≤ p
  · have : (L - p).toNat = 0 := by omega
    rw [this, ← rne_scale _ _ (2 ^ (L - B).toNat) (Nat.two_pow_pos _), Nat.pow_zero, Nat.one_mul, Nat.mul_assoc, ← Nat.pow_add]
    congr 3
    omega
  · have : (p - L).toNat = 0 := by omega
    rw [this, ← rne_scale _ _ (2 ^ (p - B).toNat) (Nat.two_pow_pos _), Nat.pow_zero, Nat.mul_one, ← Nat.pow_add]
    congr 2
    omega

/-- What a rung stands for, in units of the least place. -/
def vN (f : Format) (r : Nat) : Nat := if r < f.binade then r else (f.binade + r % f.binade) * 2 ^ (r / f.binade - 1)

theorem vN_succ (f : Format) (r : Nat) : vN f r ≤ vN f (r + 1) := by
  have hb : 0 < f.binade := Nat.two_pow_pos _
  have hm := Nat.div_add_mod r f.binade
  have hlt := Nat.mod_lt r hb
  unfold vN
  by_cases h1 : r + 1 < f.binade
  · rw [if_pos (by omega), if_pos h1]; omega
  · rw [if_neg h1]
    by_cases h2 : r < f.binade
    · rw [if_pos h2]
      have e : r + 1 = f.binade := by omega
      rw [e, Nat.mod_self, Nat.div_self hb]
      simp; omega
    · rw [if_neg h2]
      have hq : 0 < r / f.binade := Nat.div_pos (by omega) hb
      by_cases h3 : r % f.binade + 1 < f.binade
      · have e1 : (r + 1) % f.binade = r % f.binade + 1 := by
          rw [Nat.add_mod, Nat.mod_eq_of_lt (a := 1) (by omega), Nat.mod_eq_of_lt h3]
        have e2 : (r + 1) / f.binade = r / f.binade := by
          have : r + 1 = f.binade * (r / f.binade) + (r % f.binade + 1) := by omega
          rw [this, Nat.mul_add_div hb, Nat.div_eq_of_lt h3]
          rfl
        rw [e1, e2]
        exact Nat.mul_le_mul_right _ (by omega)
      · have e0 : r + 1 = f.binade * (r / f.binade + 1) := by rw [Nat.mul_add]; omega
        have e1 : (r + 1) % f.binade = 0 := by rw [e0, Nat.mul_mod_right]
        have e2 : (r + 1) / f.binade = r / f.binade + 1 := by rw [e0, Nat.mul_div_cancel_left _ hb]
        rw [e1, e2]
        obtain ⟨c, hc⟩ : ∃ c, r / f.binade = c + 1 := ⟨r / f.binade - 1, by omega⟩
        rw [hc]
        have e3 : c + 1 + 1 - 1 = c + 1 := by omega
        have e4 : c + 1 - 1 = c := by omega
        rw [e3, e4, Nat.pow_succ, Nat.mul_comm (2 ^ c) 2, ← Nat.mul_assoc]
        exact Nat.mul_le_mul_right _ (by omega)

theorem vN_mono (f : Format) {r q : Nat} (h : r ≤ q) : vN f r ≤ vN f q := by
  induction h with
  | refl => exact Nat.le_refl _
  | step _ ih => exact Nat.le_trans ih (vN_succ f _)

theorem iv_rung (f : Format) (s : Bool) {r : Nat} (h : r < f.infRung) : iv f.leastPlace (f.read (f.word s r)) = if s then -(vN f r : Int) else vN f r := by
  rw [read_rung f s h]
  unfold vN
  split
  · simp [iv, signed]
  · simp only [iv, signed, Nat.shiftLeft_eq]
    have : (f.leastPlace + ((r / f.binade - 1 : Nat) : Int) - f.leastPlace).toNat = r / f.binade - 1 := by omega
    rw [this]

def leF (x y : Datum) : Bool := flt x y || feq x y

theorem leF_num {x y : Datum} (B : Int) (hx : isNum x = true) (hy : isNum y = true) (px : place B x) (py : place B y) : leF x y = decide (iv B x ≤ iv B y) := by
  unfold leF
  rw [flt_num B hx hy px py, feq_num B hx hy px py, ← Bool.decide_or]
  congr 1
  rw [eq_iff_iff]
  omega

/-- The rung of a number, cut at infinity. -/
def rung (f : Format) : Datum → Nat
  | .number _ m p => if m = 0 then 0 else min (rgN f.fractionBits (f.leastPlace - min p f.leastPlace).toNat (m * 2 ^ (p - min p f.leastPlace).toNat)) f.infRung
  | .infinity _ => f.infRung
  | .nan _ _ => f.infRung

theorem write_rung (f : Format) (s : Bool) (m : Nat) (p : Int) : f.write (.number s m p) = f.word s (rung f (.number s m p)) := by
  show f.nearest s m p = f.word s (if m = 0 then 0 else min (rgN f.fractionBits (f.leastPlace - min p f.leastPlace).toNat (m * 2 ^ (p - min p f.leastPlace).toNat)) f.infRung)
  by_cases hm : m = 0
  · rw [if_pos hm]
    unfold Format.nearest
    rw [if_pos hm]
  · rw [nearest_rg f s hm p (min p f.leastPlace) (by omega) (by omega), if_neg hm]

theorem rung_le (f : Format) (d : Datum) : rung f d ≤ f.infRung := by
  unfold rung
  cases d with
  | number s m p => dsimp only; split; omega; exact Nat.min_le_right _ _
  | infinity s => exact Nat.le_refl _
  | nan s t => exact Nat.le_refl _

theorem rung_base (f : Format) (s : Bool) {m : Nat} (hm : m ≠ 0) (p B : Int) (h1 : B ≤ p) (h2 : B ≤ f.leastPlace) :
    rung f (.number s m p) = min (rgN f.fractionBits (f.leastPlace - B).toNat (m * 2 ^ (p - B).toNat)) f.infRung := by
  have e : f.nearest false m p = f.word false (rung f (.number false m p)) := write_rung f false m p
  have e' := nearest_rg f false hm p B h1 h2
  rw [e'] at e
  unfold Format.word at e
  simp only [Bool.false_eq_true, if_false] at e
  exact e.symm

theorem rung_mono (f : Format) {m n : Nat} {p q : Int} (s t : Bool) (B : Int) (h1 : B ≤ p) (h2 : B ≤ q) (h : m * 2 ^ (p - B).toNat ≤ n * 2 ^ (q - B).toNat) : rung f (.number s m p) ≤ rung f (.number t n q) := by
  by_cases hm : m = 0
  · subst hm; simp [rung]
  · have hn : n ≠ 0 := by
      rintro rfl
      have := Nat.two_pow_pos (p - B).toNat
      have : 0 < m * 2 ^ (p - B).toNat := Nat.mul_pos (by omega) this
      omega
    obtain ⟨c, hc⟩ : ∃ c : Nat, B - min B f.leastPlace = c := ⟨(B - min B f.leastPlace).toNat, by omega⟩
    rw [rung_base f s hm p (min B f.leastPlace) (by omega) (by omega), rung_base f t hn q (min B f.leastPlace) (by omega) (by omega)]
    have e1 : (p - min B f.leastPlace).toNat = (p - B).toNat + c := by omega
    have e2 : (q - min B f.leastPlace).toNat = (q - B).toNat + c := by omega
    rw [e1, e2, Nat.pow_add, Nat.pow_add, ← Nat.mul_assoc, ← Nat.mul_assoc]
    have h3 := Nat.mul_le_mul_right (2 ^ c) h
    have h4 := rgN_mono (fb := f.fractionBits) (l := (f.leastPlace - min B f.leastPlace).toNat) (Nat.mul_pos (Nat.mul_pos (by omega) (Nat.two_pow_pos (p - B).toNat)) (Nat.two_pow_pos c)) h3
    omega

def srung (s : Bool) (r : Nat) : Int := if s then -(r : Int) else r

theorem leF_word (f : Format) (hb : f.binade ≤ f.infRung) (s t : Bool) {r q : Nat} (hr : r ≤ f.infRung) (hq : q ≤ f.infRung) (h : srung s r ≤ srung t q) : leF (f.read (f.word s r)) (f.read (f.word t q)) = true := by
  have hbp : 0 < f.binade := Nat.two_pow_pos _
  have num : ∀ (s : Bool) (r : Nat), r < f.infRung → isNum (f.read (f.word s r)) = true := fun s r h => by
    rw [read_rung f s h]; split <;> rfl
  by_cases hr' : r = f.infRung
  · subst hr'
    rw [read_inf f hb]
    by_cases hq' : q = f.infRung
    · subst hq'
      rw [read_inf f hb]
      unfold srung at h
      cases s <;> cases t <;> simp at h ⊢ <;> first | decide | omega
    · have hq2 : q < f.infRung := by omega
      have hn := num t q hq2
      cases s
      · unfold srung at h; cases t <;> simp at h <;> omega
      · cases hd : f.read (f.word t q) with
        | number u m p => rfl
        | infinity u => rw [hd] at hn; cases hn
        | nan u v => rw [hd] at hn; cases hn
  · have hr2 : r < f.infRung := by omega
    by_cases hq' : q = f.infRung
    · subst hq'
      rw [read_inf f hb]
      have hn := num s r hr2
      cases t
      · cases hd : f.read (f.word s r) with
        | number u m p => rfl
        | infinity u => rw [hd] at hn; cases hn
        | nan u v => rw [hd] at hn; cases hn
      · unfold srung at h; cases s <;> simp at h <;> omega
    · have hq2 : q < f.infRung := by omega
      have p1 : place f.leastPlace (f.read (f.word s r)) := tidy_place (read_tidy f _)
      have p2 : place f.leastPlace (f.read (f.word t q)) := tidy_place (read_tidy f _)
      rw [leF_num f.leastPlace (num s r hr2) (num t q hq2) p1 p2, iv_rung f s hr2, iv_rung f t hq2]
      have h0 : vN f 0 = 0 := by unfold vN; rw [if_pos hbp]
      unfold srung at h
      cases s <;> cases t <;> simp only [Bool.false_eq_true, if_true, if_false, decide_eq_true_eq] at h ⊢
      · have := vN_mono f (r := r) (q := q) (by omega); omega
      · have e1 : r = 0 := by omega
        have e2 : q = 0 := by omega
        subst e1 e2
        omega
      · omega
      · have := vN_mono f (r := q) (q := r) (by omega); omega

theorem fmt_inf (k : FloatKind) : k.format.binade ≤ k.format.infRung := by cases k <;> decide

/-- A datum, rounded into a kind. -/
def rd (k : FloatKind) (d : Datum) : Datum := cl k (k.encode d)

theorem rd_num (k : FloatKind) (s : Bool) (m : Nat) (p : Int) : rd k (.number s m p) = k.format.read (k.format.word s (rung k.format (.number s m p))) := by
  have e : k.encode (.number s m p) = k.format.word s (rung k.format (.number s m p)) := write_rung k.format s m p
  unfold rd cl FloatKind.decode
  rw [e]
  have hle := rung_le k.format (.number s m p)
  generalize rung k.format (.number s m p) = r at *
  by_cases hr : r = k.format.infRung
  · subst hr; rw [read_inf _ (fmt_inf k)]
  · rw [read_rung _ s (by omega)]
    by_cases h : r < k.format.binade <;> simp [h]

/-- ROUNDING KEEPS ORDER. -/
theorem rd_mono (k : FloatKind) {x y : Datum} (hx : isNum x = true) (hy : isNum y = true) (h : leF x y = true) : leF (rd k x) (rd k y) = true := by
  cases x <;> simp only [isNum] at hx <;> first | (cases hx; done) | skip
  cases y <;> simp only [isNum] at hy <;> first | (cases hy; done) | skip
  rename_i s m p t n q
  rw [rd_num, rd_num]
  refine leF_word _ (fmt_inf k) s t (rung_le _ _) (rung_le _ _) ?_
  have hB : ∃ B : Int, B ≤ p ∧ B ≤ q := ⟨min p q, by omega, by omega⟩
  obtain ⟨B, b1, b2⟩ := hB
  rw [leF_num (x := .number s m p) (y := .number t n q) B rfl rfl b1 b2] at h
  have h := of_decide_eq_true h
  simp only [iv, signed, Nat.shiftLeft_eq] at h
  have z : ∀ (s : Bool) (m : Nat) (p : Int), m * 2 ^ (p - B).toNat = 0 → rung k.format (.number s m p) = 0 := fun s m p hz => by
    have := Nat.two_pow_pos (p - B).toNat
    rcases Nat.mul_eq_zero.1 hz with rfl | h
    · simp [rung]
    · omega
  unfold srung
  cases s <;> cases t <;> simp only [Bool.false_eq_true, if_true, if_false] at h ⊢
  · have := rung_mono k.format false false B b1 b2 (m := m) (n := n) (by omega); omega
  · rw [z false m p (by omega), z true n q (by omega)]; omega
  · omega
  · have := rung_mono k.format true true B b2 b1 (m := n) (n := m) (by omega); omega

end Go.Flt
