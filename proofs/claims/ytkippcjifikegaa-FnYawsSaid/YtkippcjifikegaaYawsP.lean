/-
  PLAIN LAWS and CONTRACTS for the law of yaws.
-/
import Derived.Test.YtkippcjifikegaaB10
namespace Go.Proofs.Ytkippcjifikegaa
open Go.RowKit Go.Flt
set_option linter.unusedVariables false
set_option maxRecDepth 100000
set_option linter.unusedSimpArgs false

theorem least_Q {x : Ieee.Datum} {k : Int} (h : Q x k) (h0 : 0 ≤ k) : least x = true := by
  unfold least fge
  rw [fin_eq, h.num, ge_leF, Q.zero.le h, decide_eq_true h0]
  rfl

theorem fin_Q {x : Ieee.Datum} {k : Int} (h : Q x k) : fin x = true := by rw [fin_eq, h.num]

theorem c_at (A : Option Addr) (n c K : Nat) (i k : Int) (xs : List Nat) (w : World) (h : Bys w K A n xs) (h0 : 0 ≤ i) (hi : i ≤ 1000) (hk : 2 ≤ k) (hk2 : k ≤ 1000) : Calls Try.prog 7 #[.slice A n c, .int .i64 i, .int .i64 k] w fun e w' => ∃ m : Nat, e = .returned (.int .i64 (m : Int)) ∧ (m : Int) < k ∧ Drawn w w' := by
  obtain ⟨i, rfl⟩ := Int.eq_ofNat_of_zero_le h0
  obtain ⟨k, rfl⟩ := Int.eq_ofNat_of_zero_le (show 0 ≤ k by omega)
  exact (c_b10At A n c K i k xs w h (by omega) (by omega) (by omega)).mono fun e w' ⟨m, he, hm, hd⟩ => ⟨m, he, by omega, hd⟩

theorem c_stepQ {y x q m : Nat} {a b r n : Int} (w : World) (fy : fits y) (hy : Q (cl .f32 y) a) (hx : Q (cl .f32 x) b) (hq : Q (cl .f32 q) r) (hm : Q (cl .f32 m) n) (a1 : -32 ≤ a) (a2 : a ≤ 31) (b1 : -32 ≤ b) (b2 : b ≤ 31) (r1 : 0 ≤ r) (r2 : r ≤ 8) (n1 : 0 ≤ n) :
    Calls Try.prog 8 #[.float .f32 y, .float .f32 x, .float .f32 q, .float .f32 m] w (RetFB (nxt (cl .f32 y) (cl .f32 x) (cl .f32 q) (cl .f32 m)) true (Grew w)) := by
  obtain ⟨_, ho⟩ := Q.nxt hy hx hq hm a1 a2 b1 b2 r1 r2
  refine (c_implStep y x q m w fy (fin_Q hy) (least_Q hq r1) (least_Q hm n1)).mono fun e w' ⟨z, he, hz, hf, hg⟩ => ?_
  rw [ho] at he
  exact ⟨z, he, hz ho, hf, hg⟩

/-- The sum of what a row of 64ths turns by. -/
theorem turn_Q {xs : List Nat} {r : Int} {f : Nat → Int} (hl : xs.length = 6) (r1 : 0 ≤ r) (r2 : r ≤ 8) (hx : ∀ k, k < 6 → Q (cl .f32 (xs.getD k 0)) (f k) ∧ -32 ≤ f k ∧ f k ≤ 31) (hd : ∀ k, k < 5 → (((wrI (f (k + 1) - f k)).natAbs : Nat) : Int) ≤ r) :
    okT xs = true ∧ ∃ S, Q (turn xs) S ∧ 0 ≤ S ∧ S ≤ r * 5 := by
  have hdif : ∀ k, k < 5 → Q (dif xs k) (f (k + 1) - f k) := by
    intro k hk
    obtain ⟨p1, p2, p3⟩ := hx (k + 1) (by omega)
    obtain ⟨q1, q2, q3⟩ := hx k (by omega)
    exact p1.sub q1 (by omega) (by omega)
  have hok : okT xs = true := by
    unfold okT
    rw [decide_eq_true (by omega), difs_all (fun k hk => fin_Q (hdif k (by omega)))]
    have : (xs.all fun x => fin (cl .f32 x)) = true := by
      rw [List.all_eq_true]
      intro x hm
      obtain ⟨k, hk, e⟩ := List.getElem_of_mem hm
      have := (hx k (by omega)).1
      have e2 : xs.getD k 0 = x := by simp [List.getD, List.getElem?_eq_getElem hk, e]
      rw [e2] at this
      exact fin_Q this
    rw [this]
    rfl
  have hw : ∀ k, k < 5 → Q (wrp (dif xs k)) (wrI (f (k + 1) - f k)) := by
    intro k hk
    have h := hdif k hk
    obtain ⟨p1, p2, p3⟩ := hx (k + 1) (by omega)
    obtain ⟨q1, q2, q3⟩ := hx k (by omega)
    have hz : ∃ z, dif xs k = cl .f32 z := num_word h.num
    obtain ⟨z, hz⟩ := hz
    rw [hz] at h ⊢
    exact Q.wrp h (by omega) (by omega)
  have hs : ∀ k, k ≤ 5 → ∃ S, Q (trn xs k) S ∧ 0 ≤ S ∧ S ≤ r * (k : Int) := by
    intro k
    induction k with
    | zero => intro _; exact ⟨0, Q.zero, by omega, by omega⟩
    | succ k ih =>
      intro hk
      obtain ⟨S, s1, s2, s3⟩ := ih (by omega)
      have h1 := (hw k (by omega)).abs
      have h2 := hd k (by omega)
      have hr : r * (k : Int) ≤ 8 * 5 := Int.mul_le_mul r2 (by omega) (by omega) (by omega)
      have hr2 : r * ((k + 1 : Nat) : Int) = r * (k : Int) + r := by rw [Int.natCast_add, Int.mul_add]; simp
      refine ⟨S + (((wrI (f (k + 1) - f k)).natAbs : Nat) : Int), s1.add h1 (by omega) (by omega), by omega, by omega⟩
  refine ⟨hok, ?_⟩
  obtain ⟨S, s1, s2, s3⟩ := hs 5 (Nat.le_refl _)
  have e : turn xs = trn xs 5 := by unfold turn; rw [hok, if_pos rfl, hl]
  exact ⟨S, by rw [e]; exact s1, s2, s3⟩

/-- A run of yaws over a row of six 64ths. -/
theorem runQ {y q m : Nat} {xs : List Nat} {a r n : Int} (hy : Q (cl .f32 y) a) (hq : Q (cl .f32 q) r) (hm : Q (cl .f32 m) n) (a1 : -32 ≤ a) (a2 : a ≤ 31) (r1 : 0 ≤ r) (r2 : r ≤ 8) (n1 : 0 ≤ n) (hl : xs.length = 6)
    (hx : ∀ k, k < 6 → ∃ b, Q (cl .f32 (xs.getD k 0)) b ∧ -32 ≤ b ∧ b ≤ 31) :
    okY y xs q m = true ∧ runY y xs q m = (List.range 6).map (fun k => yk (cl .f32 q) (cl .f32 m) xs (cl .f32 y) (k + 1)) ∧ ∃ f : Nat → Int, f 0 = a ∧ (∀ k, k ≤ 6 → (∃ z, yk (cl .f32 q) (cl .f32 m) xs (cl .f32 y) k = cl .f32 z) ∧ Q (yk (cl .f32 q) (cl .f32 m) xs (cl .f32 y) k) (f k) ∧ -32 ≤ f k ∧ f k ≤ 31) ∧ ∀ k, k < 6 → (((wrI (f (k + 1) - f k)).natAbs : Nat) : Int) ≤ r := by
  have hb : ∃ bs : Nat → Int, ∀ k, k < 6 → Q (cl .f32 (xs.getD k 0)) (bs k) ∧ -32 ≤ bs k ∧ bs k ≤ 31 := by
    refine ⟨fun k => if h : k < 6 then (hx k h).choose else 0, fun k hk => ?_⟩
    simp only [hk, dif_pos]
    exact (hx k hk).choose_spec
  obtain ⟨bs, hbs⟩ := hb
  have hrun := run_Q (xs := xs) (bs := bs) hy hq hm a1 a2 r1 r2 (fun k hk => hbs k (by omega))
  have hok : okY y xs q m = true := by
    unfold okY
    rw [fin_Q hy, decide_eq_true (by omega), least_Q hq r1, least_Q hm n1]
    have : (List.range xs.length).all (okK (cl .f32 q) (cl .f32 m) xs (cl .f32 y)) = true := by
      rw [List.all_eq_true]
      intro k hk
      have hk := List.mem_range.1 hk
      obtain ⟨z, _, _, h⟩ := hrun k (by omega)
      exact h hk
    rw [this]
    rfl
  refine ⟨hok, ?_, ykI r n bs a, rfl, fun k hk => ?_, fun k hk => ?_⟩
  · unfold runY
    rw [hok, if_pos rfl, hl]
  · obtain ⟨z, e, h, _⟩ := hrun k (by omega)
    exact ⟨⟨z, e⟩, by rw [e]; exact h, ykI_in r n bs a1 a2 k⟩
  · obtain ⟨i1, i2⟩ := ykI_in r n bs a1 a2 k
    obtain ⟨_, h2, h3⟩ := hbs k hk
    exact nx_far i1 i2 h2 h3 r1 r2

end Go.Proofs.Ytkippcjifikegaa
