/-
  WALK: the law of RoseOf.
-/
import Derived.Test.YtebhefbpkcpnjaaRoS
namespace Go.Proofs.Ytebhefbpkcpnjaa
open Go.RowKit Go.Flt
set_option linter.unusedVariables false
set_option maxRecDepth 100000
set_option linter.unusedSimpArgs false

theorem ro_len (xs ys : List Nat) (cn : Int) : (if isRO xs ys cn then shL xs cn.toNat else []).length ≤ 1048576 ∧ (if isRO xs ys cn then spL xs ys cn.toNat else []).length ≤ 1048576 := by
  cases h : isRO xs ys cn
  · simp
  · have hk : roOk xs ys cn = true := by
      unfold isRO at h
      rw [Bool.and_eq_true] at h
      exact h.1
    obtain ⟨c, rfl, _, h2, _⟩ := roOk_parts hk
    simp [shL, spL]
    omega

theorem c_specRO' (lo hi lo' hi' : Nat) (v v' : Value) (xs ys : List Nat) (cn : Int) (w : World) (h : FRow w lo hi v xs) (h' : FRow w lo' hi' v' ys) (hs : hi ≤ w.heap.size) (hs' : hi' ≤ w.heap.size) (hn : xs.length ≤ 1048576) (hm : ys.length ≤ 1048576) :
    Calls Try.prog 38 #[v, v', .int .i64 cn] w (RetR (if isRO xs ys cn then shL xs cn.toNat else []) (if isRO xs ys cn then spL xs ys cn.toNat else []) (isRO xs ys cn) w) := by
  obtain ⟨A, a, rfl, h1⟩ := h.slc
  obtain ⟨C, b, rfl, h2⟩ := h'.slc
  cases k1 : (winds ys && decide (xs.length = ys.length) && within cn 1 16)
  · have e : isRO xs ys cn = false := by
      unfold isRO roOk
      revert k1
      cases winds ys <;> cases decide (xs.length = ys.length) <;> cases within cn 1 16 <;> simp
    rw [e]
    exact c_sroBad A C _ a _ b w.heap.size xs ys cn w (Slc.mono h1 hs) (Slc.mono h2 hs') (Nat.le_refl _) hn hm k1
  · simp only [Bool.and_eq_true, decide_eq_true_eq] at k1
    obtain ⟨⟨q1, q2⟩, q3⟩ := k1
    have q4 := q3
    unfold within at q4
    simp at q4
    obtain ⟨c, rfl⟩ : ∃ c : Nat, cn = c := ⟨cn.toNat, by omega⟩
    have e : isRO xs ys c = (allTurn xs && vRoseD (shL xs c) (spL xs ys c)) := by
      unfold isRO roOk
      rw [q1, q3, decide_eq_true q2]
      simp
    rw [e]
    exact c_sroMain A C _ a _ b w.heap.size xs ys c w (Slc.mono h1 hs) (Slc.mono h2 hs') (Nat.le_refl _) q1 q2 (by omega) (by omega)

theorem c_implRO' (lo hi lo' hi' : Nat) (v v' : Value) (xs ys : List Nat) (cn : Int) (w : World) (h : FRow w lo hi v xs) (h' : FRow w lo' hi' v' ys) (hs : hi ≤ w.heap.size) (hs' : hi' ≤ w.heap.size) (hn : xs.length ≤ 1048576) (hm : ys.length ≤ 1048576) :
    Calls Try.prog 39 #[v, v', .int .i64 cn] w (RetR (if isRO xs ys cn then shL xs cn.toNat else []) (if isRO xs ys cn then spL xs ys cn.toNat else []) (isRO xs ys cn) w) := by
  obtain ⟨A, a, rfl, h1⟩ := h.slc
  obtain ⟨C, b, rfl, h2⟩ := h'.slc
  cases k1 : roOk xs ys cn
  · have e : isRO xs ys cn = false := by unfold isRO; rw [k1]; rfl
    rw [e]
    exact c_iroBad A C _ a _ b w.heap.size xs ys cn w (Slc.mono h1 hs) (Slc.mono h2 hs') (Nat.le_refl _) hn hm k1
  · obtain ⟨c, rfl, _⟩ := roOk_parts k1
    have e : isRO xs ys c = vRoseD (shL xs c) (spL xs ys c) := by unfold isRO; rw [k1]; simp
    rw [e]
    exact c_iroGood A C _ a _ b w.heap.size xs ys c w (Slc.mono h1 hs) (Slc.mono h2 hs') (Nat.le_refl _) k1

set_option maxHeartbeats 4000000 in
theorem walk_RoseOf_ok (A0 : Option Addr) (n0 c0 : Nat) (xs0 : List Nat) (A1 : Option Addr) (n1 c1 : Nat) (xs1 : List Nat) (a2 : Int) (w : World) (hx0 : Slc (Value.float .f32) w w.heap.size A0 n0 xs0) (hn0 : n0 ≤ maxLen) (fx0 : ∀ x ∈ xs0, fits x) (hx1 : Slc (Value.float .f32) w w.heap.size A1 n1 xs1) (hn1 : n1 ≤ maxLen) (fx1 : ∀ x ∈ xs1, fits x) (fa2 : (Lit.int .i64 a2).wf = true) (g0 : n0 ≤ 1048576) (g1 : n1 ≤ 1048576) :
    Calls Try.prog 10 #[.slice A0 n0 c0, .slice A1 n1 c1, .int .i64 a2] w fun e w' => e = .returned (.bool true) ∧ Below w.heap.size w w' := by
  obtain rfl := hx0.1
  obtain rfl := hx1.1
  have lx0 : Hid (xs0.length ≤ 1048576) := by show _ ≤ _; omega
  have lx1 : Hid (xs1.length ≤ 1048576) := by show _ ≤ _; omega
  have dl0 : decide ((1048576 : Int) < (xs0.length : Int)) = false := by simp; omega
  have dl1 : decide ((1048576 : Int) < (xs1.length : Int)) = false := by simp; omega
  have TA0 := Lib.hid (fun w' (hg : Grew w w') => c_toF A0 _ c0 w.heap.size xs0 w' (Slc.grew hx0 (Nat.le_refl _) hg) (Below.size hg) lx0.out)
  have TA1 := Lib.hid (fun w' (hg : Grew w w') => c_toF A1 _ c1 w.heap.size xs1 w' (Slc.grew hx1 (Nat.le_refl _) hg) (Below.size hg) lx1.out)
  have CS := Lib.hid (fun lo0 hi0 v0 lo1 hi1 v1 (w : World) (h0 : RowAt (Value.float .f32) 23 w lo0 hi0 v0 xs0) (s0 : hi0 ≤ w.heap.size) (h1 : RowAt (Value.float .f32) 23 w lo1 hi1 v1 xs1) (s1 : hi1 ≤ w.heap.size) => c_specRO' lo0 hi0 lo1 hi1 v0 v1 xs0 xs1 a2 w h0 h1 s0 s1 lx0.out lx1.out)
  have CI := Lib.hid (fun lo0 hi0 v0 lo1 hi1 v1 (w : World) (h0 : RowAt (Value.float .f32) 23 w lo0 hi0 v0 xs0) (s0 : hi0 ≤ w.heap.size) (h1 : RowAt (Value.float .f32) 23 w lo1 hi1 v1 xs1) (s1 : hi1 ≤ w.heap.size) => c_implRO' lo0 hi0 lo1 hi1 v0 v1 xs0 xs1 a2 w h0 h1 s0 s1 lx0.out lx1.out)
  have LD : Hid ((if isRO xs0 xs1 a2 then shL xs0 a2.toNat else []).length ≤ 1048576 ∧ (if isRO xs0 xs1 a2 then spL xs0 xs1 a2.toNat else []).length ≤ 1048576) := by show _ ∧ _; exact ro_len xs0 xs1 a2
  generalize (if isRO xs0 xs1 a2 then shL xs0 a2.toNat else []) = D at CS CI LD
  generalize (if isRO xs0 xs1 a2 then spL xs0 xs1 a2.toNat else []) = E at CS CI LD
  generalize (isRO xs0 xs1 a2) = S at CS CI
  clear hx0 hn0 fx0 hx1 hn1 fx1 fa2 g0 g1
  have G : Hid (Grew w w) := grew_refl w
  go_enter Try.func10, Try.ntmps10
  go_wp2_with fail
  refine (TA0.out _ G.out).mono ?_
  rintro e w1 ⟨v, rfl, hr, hg0⟩
  have hg : Grew w w1 := hg0
  replace G := Lib.hid (grew_trans G.out hg)
  have N1 : Hid (w.heap.size ≤ w1.heap.size) := by have := Below.size hg0; (try simp at this); show _ ≤ _; omega
  try rw [size_al] at hr
  clear hg hg0
  obtain ⟨XT0, xT0, rfl, _⟩ := hr.slc
  have T0 := Lib.hid (Loc.row hr (Nat.le_refl _))
  clear hr
  go_wp2_with fail
  refine (TA1.out _ G.out).mono ?_
  rintro e w2 ⟨v, rfl, hr, hg0⟩
  have hg : Grew w1 w2 := hg0
  replace T0 := Lib.hid (T0.out.grew hg)
  replace G := Lib.hid (grew_trans G.out hg)
  have N2 : Hid (w1.heap.size ≤ w2.heap.size) := by have := Below.size hg0; (try simp at this); show _ ≤ _; omega
  try rw [size_al] at hr
  clear hg hg0
  obtain ⟨XT1, xT1, rfl, _⟩ := hr.slc
  have T1 := Lib.hid (Loc.row hr (Nat.le_refl _))
  clear hr
  go_wp2_with fail
  refine (CS.out _ _ _ _ _ _ _ T0.out.now T0.out.le T1.out.now T1.out.le).mono ?_
  rintro e w3 ⟨v, zF, uF, rfl, hr, hz, hu, hg0⟩
  have hg : Grew w2 w3 := hg0
  replace T0 := Lib.hid (T0.out.grew hg)
  replace T1 := Lib.hid (T1.out.grew hg)
  replace G := Lib.hid (grew_trans G.out hg)
  have N3 : Hid (w2.heap.size ≤ w3.heap.size) := by have := Below.size hg0; (try simp at this); show _ ≤ _; omega
  try rw [size_al] at hr
  clear hg hg0
  clear T0
  clear T1
  obtain ⟨XF, xF, YF, yF, rfl, _, _⟩ := hr.parts
  have F := Lib.hid (Loc.rose hr (Nat.le_refl _))
  have ZF := Lib.hid hz
  have UF := Lib.hid hu
  have LF : Hid (zF.length ≤ 1048576 ∧ uF.length ≤ 1048576) := by show _ ∧ _; exact ⟨by rw [len_of_map ZF.out]; exact LD.out.1, by rw [len_of_map UF.out]; exact LD.out.2⟩
  clear hr hz hu
  go_wp2_with fail
  have hal : Grew w3 (w3.alloc (.cells #[.slice XF zF.length xF, .slice YF uF.length yF] 34)) := grew_al (grew_refl _) _
  refine (TA0.out _ (grew_trans G.out hal)).mono ?_
  rintro e w4 ⟨v, rfl, hr, hg0⟩
  have hg : Grew w3 w4 := grew_trans hal hg0
  replace F := Lib.hid (F.out.grew hg)
  replace G := Lib.hid (grew_trans G.out hg)
  have P := Lib.hid ((Loc.ro (w := (w3.alloc (.cells #[.slice XF zF.length xF, .slice YF uF.length yF] 34))) (b := w3.heap.size) (X := .slice XF zF.length xF) (Y := .slice YF uF.length yF)  (by refine ⟨?_, ?_⟩ <;> simp [go_sem]) (by simp <;> omega)).grew hg0)
  have N4 : Hid (w3.heap.size + 1 ≤ w4.heap.size) := by have := Below.size hg0; (try simp at this); show _ ≤ _; omega
  try rw [size_al] at hr
  clear hg hg0 hal
  obtain ⟨XC0, xC0, rfl, _⟩ := hr.slc
  have C0 := Lib.hid (Loc.row hr (Nat.le_refl _))
  clear hr
  go_wp2_with fail
  refine (TA1.out _ G.out).mono ?_
  rintro e w5 ⟨v, rfl, hr, hg0⟩
  have hg : Grew w4 w5 := hg0
  replace F := Lib.hid (F.out.grew hg)
  replace P := Lib.hid (P.out.grew hg)
  replace C0 := Lib.hid (C0.out.grew hg)
  replace G := Lib.hid (grew_trans G.out hg)
  have N5 : Hid (w4.heap.size ≤ w5.heap.size) := by have := Below.size hg0; (try simp at this); show _ ≤ _; omega
  try rw [size_al] at hr
  clear hg hg0
  obtain ⟨XC1, xC1, rfl, _⟩ := hr.slc
  have C1 := Lib.hid (Loc.row hr (Nat.le_refl _))
  clear hr
  go_wp2_with fail
  refine (CI.out _ _ _ _ _ _ _ C0.out.now C0.out.le C1.out.now C1.out.le).mono ?_
  rintro e w6 ⟨v, zV, uV, rfl, hr, hz, hu, hg0⟩
  have hg : Grew w5 w6 := hg0
  replace F := Lib.hid (F.out.grew hg)
  replace P := Lib.hid (P.out.grew hg)
  replace C0 := Lib.hid (C0.out.grew hg)
  replace C1 := Lib.hid (C1.out.grew hg)
  replace G := Lib.hid (grew_trans G.out hg)
  have N6 : Hid (w5.heap.size ≤ w6.heap.size) := by have := Below.size hg0; (try simp at this); show _ ≤ _; omega
  try rw [size_al] at hr
  clear hg hg0
  obtain ⟨XV, xV, YV, yV, rfl, _, _⟩ := hr.parts
  have V := Lib.hid (Loc.rose hr (Nat.le_refl _))
  have ZV := Lib.hid hz
  have UV := Lib.hid hu
  have LV : Hid (zV.length ≤ 1048576 ∧ uV.length ≤ 1048576) := by show _ ∧ _; exact ⟨by rw [len_of_map ZV.out]; exact LD.out.1, by rw [len_of_map UV.out]; exact LD.out.2⟩
  clear hr hz hu
  have ss : (S != S) = false := by simp
  obtain ⟨p_0, p_1⟩ := P.out.now
  have p_b := P.out.lt
  go_wp2_with fail
  have hal : Grew w6 (w6.alloc (.cells #[.slice XV zV.length xV, .slice YV uV.length yV] 34)) := grew_al (grew_refl _) _
  refine (c_eqRose _ _ _ _ _ _ zV uV zF uF _ (V.out.grew hal).now (F.out.grew hal).now (ZV.out.trans ZF.out.symm) (UV.out.trans UF.out.symm) LV.out.1 LV.out.2).mono ?_
  rintro e w7 ⟨rfl, hg0⟩
  clear p_0 p_1 p_b
  have hg : Grew w6 w7 := grew_trans hal hg0
  replace F := Lib.hid (F.out.grew hg)
  replace P := Lib.hid (P.out.grew hg)
  replace C0 := Lib.hid (C0.out.grew hg)
  replace C1 := Lib.hid (C1.out.grew hg)
  replace V := Lib.hid (V.out.grew hg)
  replace G := Lib.hid (grew_trans G.out hg)
  have W := Lib.hid ((Loc.ro (w := (w6.alloc (.cells #[.slice XV zV.length xV, .slice YV uV.length yV] 34))) (b := w6.heap.size) (X := .slice XV zV.length xV) (Y := .slice YV uV.length yV)  (by refine ⟨?_, ?_⟩ <;> simp [go_sem]) (by simp <;> omega)).grew hg0)
  have N7 : Hid (w6.heap.size + 1 ≤ w7.heap.size) := by have := Below.size hg0; (try simp at this); show _ ≤ _; omega
  clear hg hg0 hal
  go_wp2_with fail
  refine (TA0.out _ G.out).mono ?_
  rintro e w8 ⟨v, rfl, hr, hg0⟩
  have hg : Grew w7 w8 := hg0
  replace F := Lib.hid (F.out.grew hg)
  replace P := Lib.hid (P.out.grew hg)
  replace C0 := Lib.hid (C0.out.grew hg)
  replace C1 := Lib.hid (C1.out.grew hg)
  replace V := Lib.hid (V.out.grew hg)
  replace W := Lib.hid (W.out.grew hg)
  replace G := Lib.hid (grew_trans G.out hg)
  have N8 : Hid (w7.heap.size ≤ w8.heap.size) := by have := Below.size hg0; (try simp at this); show _ ≤ _; omega
  try rw [size_al] at hr
  clear hg hg0
  obtain ⟨XT, xT, rfl, _⟩ := hr.slc
  have T := Lib.hid (Loc.row hr (Nat.le_refl _))
  clear hr
  go_wp2_with fail
  refine (c_eqF' _ _ _ _ _ _ xs0 xs0 _ C0.out.now T.out.now rfl lx0.out).mono ?_
  rintro e w9 ⟨rfl, hg0⟩
  have hg : Grew w8 w9 := hg0
  replace F := Lib.hid (F.out.grew hg)
  replace P := Lib.hid (P.out.grew hg)
  replace C0 := Lib.hid (C0.out.grew hg)
  replace C1 := Lib.hid (C1.out.grew hg)
  replace V := Lib.hid (V.out.grew hg)
  replace W := Lib.hid (W.out.grew hg)
  replace T := Lib.hid (T.out.grew hg)
  replace G := Lib.hid (grew_trans G.out hg)
  have N9 : Hid (w8.heap.size ≤ w9.heap.size) := by have := Below.size hg0; (try simp at this); show _ ≤ _; omega
  clear hg hg0
  clear T
  go_wp2_with fail
  refine (TA1.out _ G.out).mono ?_
  rintro e w10 ⟨v, rfl, hr, hg0⟩
  have hg : Grew w9 w10 := hg0
  replace F := Lib.hid (F.out.grew hg)
  replace P := Lib.hid (P.out.grew hg)
  replace C0 := Lib.hid (C0.out.grew hg)
  replace C1 := Lib.hid (C1.out.grew hg)
  replace V := Lib.hid (V.out.grew hg)
  replace W := Lib.hid (W.out.grew hg)
  replace G := Lib.hid (grew_trans G.out hg)
  have N10 : Hid (w9.heap.size ≤ w10.heap.size) := by have := Below.size hg0; (try simp at this); show _ ≤ _; omega
  try rw [size_al] at hr
  clear hg hg0
  obtain ⟨XT, xT, rfl, _⟩ := hr.slc
  have T := Lib.hid (Loc.row hr (Nat.le_refl _))
  clear hr
  go_wp2_with fail
  refine (c_eqF' _ _ _ _ _ _ xs1 xs1 _ C1.out.now T.out.now rfl lx1.out).mono ?_
  rintro e w11 ⟨rfl, hg0⟩
  have hg : Grew w10 w11 := hg0
  replace F := Lib.hid (F.out.grew hg)
  replace P := Lib.hid (P.out.grew hg)
  replace C0 := Lib.hid (C0.out.grew hg)
  replace C1 := Lib.hid (C1.out.grew hg)
  replace V := Lib.hid (V.out.grew hg)
  replace W := Lib.hid (W.out.grew hg)
  replace T := Lib.hid (T.out.grew hg)
  replace G := Lib.hid (grew_trans G.out hg)
  have N11 : Hid (w10.heap.size ≤ w11.heap.size) := by have := Below.size hg0; (try simp at this); show _ ≤ _; omega
  clear hg hg0
  clear T
  go_wp2_with fail
  refine (c_markF' _ _ _ xs0 (1) _ C0.out.now (by have := lx0.out; have := lx0.out; have := lx1.out;  omega) (by have := lx0.out; have := lx0.out; have := lx1.out;  omega) (by have := lx0.out; have := lx0.out; have := lx1.out;  omega)).mono ?_
  rintro e w12 ⟨rfl, _, ho⟩
  have nn : _ ∧ _ ∧ _ ∧ _ ∧ _ ∧ _ ∧ _ ∧ _ ∧ _ ∧ _ ∧ _ := ⟨N1.out, N2.out, N3.out, N4.out, N5.out, N6.out, N7.out, N8.out, N9.out, N10.out, N11.out⟩
  replace F := Lib.hid (F.out.wrote ho (.inl (by omega)))
  replace P := Lib.hid (P.out.wrote ho (.inl (by omega)))
  replace C1 := Lib.hid (C1.out.wrote ho (.inr (by omega)))
  replace V := Lib.hid (V.out.wrote ho (.inr (by omega)))
  replace W := Lib.hid (W.out.wrote ho (.inr (by omega)))
  replace G := Lib.hid (Wrote.below G.out ho (Nat.le_refl _) (by omega))
  have N12 : Hid (w11.heap.size ≤ w12.heap.size) := ho.size
  clear nn
  clear C0 ho
  go_wp2_with fail
  refine (c_markF' _ _ _ xs1 (1 + (xs0.length : Int)) _ C1.out.now (by have := lx1.out; have := lx0.out; have := lx1.out;  omega) (by have := lx1.out; have := lx0.out; have := lx1.out;  omega) (by have := lx1.out; have := lx0.out; have := lx1.out;  omega)).mono ?_
  rintro e w13 ⟨rfl, _, ho⟩
  have nn : _ ∧ _ ∧ _ ∧ _ ∧ _ ∧ _ ∧ _ ∧ _ ∧ _ ∧ _ ∧ _ ∧ _ := ⟨N1.out, N2.out, N3.out, N4.out, N5.out, N6.out, N7.out, N8.out, N9.out, N10.out, N11.out, N12.out⟩
  replace F := Lib.hid (F.out.wrote ho (.inl (by omega)))
  replace P := Lib.hid (P.out.wrote ho (.inl (by omega)))
  replace V := Lib.hid (V.out.wrote ho (.inr (by omega)))
  replace W := Lib.hid (W.out.wrote ho (.inr (by omega)))
  replace G := Lib.hid (Wrote.below G.out ho (Nat.le_refl _) (by omega))
  have N13 : Hid (w12.heap.size ≤ w13.heap.size) := ho.size
  clear nn
  clear C1 ho
  have dk : decide (1 + (xs0.length : Int) + (xs1.length : Int) < 0) = false := by simp; omega
  obtain ⟨p_0, p_1⟩ := P.out.now
  have p_b := P.out.lt
  obtain ⟨w_0, w_1⟩ := W.out.now
  have w_b := W.out.lt
  go_wp2_with fail
  refine (c_eqRose _ _ _ _ _ _ zV uV zF uF _ V.out.now F.out.now (ZV.out.trans ZF.out.symm) (UV.out.trans UF.out.symm) LV.out.1 LV.out.2).mono ?_
  rintro e w14 ⟨rfl, hg0⟩
  clear p_0 p_1 p_b w_0 w_1 w_b
  have hg : Grew w13 w14 := hg0
  replace F := Lib.hid (F.out.grew hg)
  replace P := Lib.hid (P.out.grew hg)
  replace V := Lib.hid (V.out.grew hg)
  replace W := Lib.hid (W.out.grew hg)
  replace G := Lib.hid (grew_trans G.out hg)
  have N14 : Hid (w13.heap.size ≤ w14.heap.size) := by have := Below.size hg0; (try simp at this); show _ ≤ _; omega
  clear hg hg0
  clear dk
  obtain ⟨w_0, w_1⟩ := W.out.now
  have w_b := W.out.lt
  go_wp2_with fail
  refine (c_markRose _ _ _ zV uV  1 _ V.out.now V.out.le LV.out.1 LV.out.2 (by omega) (by omega)).mono ?_
  rintro e w15 ⟨rfl, hr, ho⟩
  clear w_0 w_1 w_b
  have nn : _ ∧ _ ∧ _ ∧ _ ∧ _ ∧ _ ∧ _ ∧ _ ∧ _ ∧ _ ∧ _ ∧ _ ∧ _ ∧ _ := ⟨N1.out, N2.out, N3.out, N4.out, N5.out, N6.out, N7.out, N8.out, N9.out, N10.out, N11.out, N12.out, N13.out, N14.out⟩
  replace F := Lib.hid (F.out.wrote ho (.inl (by omega)))
  replace P := Lib.hid (P.out.wrote ho (.inl (by omega)))
  replace W := Lib.hid (W.out.wrote ho (.inr (by omega)))
  replace G := Lib.hid (Wrote.below G.out ho (Nat.le_refl _) (by omega))
  have N15 : Hid (w14.heap.size ≤ w15.heap.size) := ho.size
  clear nn
  replace V := Lib.hid (Loc.rose hr (Nat.le_trans V.out.le ho.size))
  clear hr ho
  have dm : decide (1 + (zV.length : Int) + (uV.length : Int) < 0) = false := by simp; omega
  obtain ⟨w_0, w_1⟩ := W.out.now
  have w_b := W.out.lt
  go_wp2_with fail
  refine (c_heldRose _ _ zV.length uV.length _  1 _ V.out.now LV.out.1 LV.out.2 (by omega) (by omega)).mono ?_
  rintro e w16 ⟨rfl, hg0⟩
  clear w_0 w_1 w_b
  have hg : Grew w15 w16 := hg0
  replace F := Lib.hid (F.out.grew hg)
  replace P := Lib.hid (P.out.grew hg)
  replace V := Lib.hid (V.out.grew hg)
  replace W := Lib.hid (W.out.grew hg)
  replace G := Lib.hid (grew_trans G.out hg)
  have N16 : Hid (w15.heap.size ≤ w16.heap.size) := by have := Below.size hg0; (try simp at this); show _ ≤ _; omega
  clear hg hg0
  go_wp2_with fail
  refine (TA0.out _ G.out).mono ?_
  rintro e w17 ⟨v, rfl, hr, hg0⟩
  have hg : Grew w16 w17 := hg0
  replace F := Lib.hid (F.out.grew hg)
  replace P := Lib.hid (P.out.grew hg)
  replace V := Lib.hid (V.out.grew hg)
  replace W := Lib.hid (W.out.grew hg)
  replace G := Lib.hid (grew_trans G.out hg)
  have N17 : Hid (w16.heap.size ≤ w17.heap.size) := by have := Below.size hg0; (try simp at this); show _ ≤ _; omega
  try rw [size_al] at hr
  clear hg hg0
  obtain ⟨XT0, xT0, rfl, _⟩ := hr.slc
  have T0 := Lib.hid (Loc.row hr (Nat.le_refl _))
  clear hr
  go_wp2_with fail
  refine (TA1.out _ G.out).mono ?_
  rintro e w18 ⟨v, rfl, hr, hg0⟩
  have hg : Grew w17 w18 := hg0
  replace F := Lib.hid (F.out.grew hg)
  replace P := Lib.hid (P.out.grew hg)
  replace V := Lib.hid (V.out.grew hg)
  replace W := Lib.hid (W.out.grew hg)
  replace T0 := Lib.hid (T0.out.grew hg)
  replace G := Lib.hid (grew_trans G.out hg)
  have N18 : Hid (w17.heap.size ≤ w18.heap.size) := by have := Below.size hg0; (try simp at this); show _ ≤ _; omega
  try rw [size_al] at hr
  clear hg hg0
  obtain ⟨XT1, xT1, rfl, _⟩ := hr.slc
  have T1 := Lib.hid (Loc.row hr (Nat.le_refl _))
  clear hr
  go_wp2_with fail
  refine (CI.out _ _ _ _ _ _ _ T0.out.now T0.out.le T1.out.now T1.out.le).mono ?_
  rintro e w19 ⟨v, zH, uH, rfl, hr, hz, hu, hg0⟩
  have hg : Grew w18 w19 := hg0
  replace F := Lib.hid (F.out.grew hg)
  replace P := Lib.hid (P.out.grew hg)
  replace V := Lib.hid (V.out.grew hg)
  replace W := Lib.hid (W.out.grew hg)
  replace T0 := Lib.hid (T0.out.grew hg)
  replace T1 := Lib.hid (T1.out.grew hg)
  replace G := Lib.hid (grew_trans G.out hg)
  have N19 : Hid (w18.heap.size ≤ w19.heap.size) := by have := Below.size hg0; (try simp at this); show _ ≤ _; omega
  try rw [size_al] at hr
  clear hg hg0
  clear T0
  clear T1
  obtain ⟨XH, xH, YH, yH, rfl, _, _⟩ := hr.parts
  have H := Lib.hid (Loc.rose hr (Nat.le_refl _))
  have ZH := Lib.hid hz
  have UH := Lib.hid hu
  have LH : Hid (zH.length ≤ 1048576 ∧ uH.length ≤ 1048576) := by show _ ∧ _; exact ⟨by rw [len_of_map ZH.out]; exact LD.out.1, by rw [len_of_map UH.out]; exact LD.out.2⟩
  clear hr hz hu
  obtain ⟨p_0, p_1⟩ := P.out.now
  have p_b := P.out.lt
  go_wp2_with fail
  have hal : Grew w19 (w19.alloc (.cells #[.slice XH zH.length xH, .slice YH uH.length yH] 34)) := grew_al (grew_refl _) _
  refine (c_eqRose _ _ _ _ _ _ zH uH zF uF _ (H.out.grew hal).now (F.out.grew hal).now (ZH.out.trans ZF.out.symm) (UH.out.trans UF.out.symm) LH.out.1 LH.out.2).mono ?_
  rintro e w20 ⟨rfl, hg0⟩
  clear p_0 p_1 p_b
  have hg : Grew w19 w20 := grew_trans hal hg0
  replace F := Lib.hid (F.out.grew hg)
  replace P := Lib.hid (P.out.grew hg)
  replace V := Lib.hid (V.out.grew hg)
  replace W := Lib.hid (W.out.grew hg)
  replace H := Lib.hid (H.out.grew hg)
  replace G := Lib.hid (grew_trans G.out hg)
  have T := Lib.hid ((Loc.ro (w := (w19.alloc (.cells #[.slice XH zH.length xH, .slice YH uH.length yH] 34))) (b := w19.heap.size) (X := .slice XH zH.length xH) (Y := .slice YH uH.length yH)  (by refine ⟨?_, ?_⟩ <;> simp [go_sem]) (by simp <;> omega)).grew hg0)
  have N20 : Hid (w19.heap.size + 1 ≤ w20.heap.size) := by have := Below.size hg0; (try simp at this); show _ ≤ _; omega
  clear hg hg0 hal
  obtain ⟨w_0, w_1⟩ := W.out.now
  have w_b := W.out.lt
  go_wp2_with fail
  refine (c_heldRose _ _ zV.length uV.length _  1 _ V.out.now LV.out.1 LV.out.2 (by omega) (by omega)).mono ?_
  rintro e w21 ⟨rfl, hg0⟩
  clear w_0 w_1 w_b
  have hg : Grew w20 w21 := hg0
  replace F := Lib.hid (F.out.grew hg)
  replace P := Lib.hid (P.out.grew hg)
  replace V := Lib.hid (V.out.grew hg)
  replace W := Lib.hid (W.out.grew hg)
  replace H := Lib.hid (H.out.grew hg)
  replace T := Lib.hid (T.out.grew hg)
  replace G := Lib.hid (grew_trans G.out hg)
  have N21 : Hid (w20.heap.size ≤ w21.heap.size) := by have := Below.size hg0; (try simp at this); show _ ≤ _; omega
  clear hg hg0
  go_wp2_with fail
  go_ret
  exact ⟨rfl, G.out⟩

set_option maxHeartbeats 4000000 in
theorem walk_RoseOf_bad0 (A0 : Option Addr) (n0 c0 : Nat) (xs0 : List Nat) (A1 : Option Addr) (n1 c1 : Nat) (xs1 : List Nat) (a2 : Int) (w : World) (hx0 : Slc (Value.float .f32) w w.heap.size A0 n0 xs0) (hn0 : n0 ≤ maxLen) (fx0 : ∀ x ∈ xs0, fits x) (hx1 : Slc (Value.float .f32) w w.heap.size A1 n1 xs1) (hn1 : n1 ≤ maxLen) (fx1 : ∀ x ∈ xs1, fits x) (fa2 : (Lit.int .i64 a2).wf = true)  (g0 : ¬ (n0 ≤ 1048576)) :
    Calls Try.prog 10 #[.slice A0 n0 c0, .slice A1 n1 c1, .int .i64 a2] w fun e w' => e = .returned (.bool true) ∧ Below w.heap.size w w' := by
  obtain rfl := hx0.1
  obtain rfl := hx1.1
  have dl0 : decide ((1048576 : Int) < (xs0.length : Int)) = true := by simp; omega
  have G : Hid (Grew w w) := grew_refl w
  clear hx0
  clear hx1
  clear g0
  go_enter Try.func10, Try.ntmps10
  go_wp2_with fail
  go_ret
  exact ⟨rfl, by (repeat (first | exact Below.refl _ _ | refine ext_below ?_ (by first | omega | (simp only [size_ext, heap_push, Array.size_push, World.heap_drewN]; omega) | (simp; omega)) _ _ | refine below_draws ?_ _ | refine Below.alloc ?_ (by first | omega | (simp; done) | (simp; omega)) _ | refine Below.setCell ?_ (by first | omega | (simp; done) | (simp; omega)) _ | refine below_then (by assumption) (by first | omega | (simp; done) | (simp; omega)) ?_))⟩

set_option maxHeartbeats 4000000 in
theorem walk_RoseOf_bad1 (A0 : Option Addr) (n0 c0 : Nat) (xs0 : List Nat) (A1 : Option Addr) (n1 c1 : Nat) (xs1 : List Nat) (a2 : Int) (w : World) (hx0 : Slc (Value.float .f32) w w.heap.size A0 n0 xs0) (hn0 : n0 ≤ maxLen) (fx0 : ∀ x ∈ xs0, fits x) (hx1 : Slc (Value.float .f32) w w.heap.size A1 n1 xs1) (hn1 : n1 ≤ maxLen) (fx1 : ∀ x ∈ xs1, fits x) (fa2 : (Lit.int .i64 a2).wf = true) (g0 : n0 ≤ 1048576) (g1 : ¬ (n1 ≤ 1048576)) :
    Calls Try.prog 10 #[.slice A0 n0 c0, .slice A1 n1 c1, .int .i64 a2] w fun e w' => e = .returned (.bool true) ∧ Below w.heap.size w w' := by
  obtain rfl := hx0.1
  obtain rfl := hx1.1
  have dl0 : decide ((1048576 : Int) < (xs0.length : Int)) = false := by simp; omega
  have dl1 : decide ((1048576 : Int) < (xs1.length : Int)) = true := by simp; omega
  have G : Hid (Grew w w) := grew_refl w
  clear hx0
  clear hx1
  clear g0 g1
  go_enter Try.func10, Try.ntmps10
  go_wp2_with fail
  go_ret
  exact ⟨rfl, by (repeat (first | exact Below.refl _ _ | refine ext_below ?_ (by first | omega | (simp only [size_ext, heap_push, Array.size_push, World.heap_drewN]; omega) | (simp; omega)) _ _ | refine below_draws ?_ _ | refine Below.alloc ?_ (by first | omega | (simp; done) | (simp; omega)) _ | refine Below.setCell ?_ (by first | omega | (simp; done) | (simp; omega)) _ | refine below_then (by assumption) (by first | omega | (simp; done) | (simp; omega)) ?_))⟩

set_option maxHeartbeats 4000000 in
theorem walk_RoseOf (A0 : Option Addr) (n0 c0 : Nat) (xs0 : List Nat) (A1 : Option Addr) (n1 c1 : Nat) (xs1 : List Nat) (a2 : Int) (w : World) (hx0 : Slc (Value.float .f32) w w.heap.size A0 n0 xs0) (hn0 : n0 ≤ maxLen) (fx0 : ∀ x ∈ xs0, fits x) (hx1 : Slc (Value.float .f32) w w.heap.size A1 n1 xs1) (hn1 : n1 ≤ maxLen) (fx1 : ∀ x ∈ xs1, fits x) (fa2 : (Lit.int .i64 a2).wf = true)  :
    Calls Try.prog 10 #[.slice A0 n0 c0, .slice A1 n1 c1, .int .i64 a2] w fun e w' => e = .returned (.bool true) ∧ Below w.heap.size w w' := by
  by_cases g0 : n0 ≤ 1048576
  case neg => exact walk_RoseOf_bad0 A0 n0 c0 xs0 A1 n1 c1 xs1 a2 w hx0 hn0 fx0 hx1 hn1 fx1 fa2  g0
  by_cases g1 : n1 ≤ 1048576
  case neg => exact walk_RoseOf_bad1 A0 n0 c0 xs0 A1 n1 c1 xs1 a2 w hx0 hn0 fx0 hx1 hn1 fx1 fa2 g0 g1
  exact walk_RoseOf_ok A0 n0 c0 xs0 A1 n1 c1 xs1 a2 w hx0 hn0 fx0 hx1 hn1 fx1 fa2 g0 g1


end Go.Proofs.Ytebhefbpkcpnjaa
