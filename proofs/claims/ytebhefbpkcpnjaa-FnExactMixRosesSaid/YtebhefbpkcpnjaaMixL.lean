/-
  WALK: the law of MixRoses.
-/
import Derived.Test.YtebhefbpkcpnjaaTup
namespace Go.Proofs.Ytebhefbpkcpnjaa
open Go.RowKit Go.Flt
set_option linter.unusedVariables false
set_option maxRecDepth 100000
set_option linter.unusedSimpArgs false

theorem mix_len (xs ys xs' ys' : List Nat) (s : Nat) (h : xs.length ≤ 1048576) : (if isMix xs ys xs' ys' s then mixL xs xs' s xs.length else []).length ≤ 1048576 ∧ (if isMix xs ys xs' ys' s then mixL ys ys' s xs.length else []).length ≤ 1048576 := by
  constructor <;> (split <;> simp [mixL]; try omega)

set_option maxHeartbeats 4000000 in
theorem walk_MixRoses_ok (A0 : Option Addr) (n0 c0 : Nat) (xs0 : List Nat) (B0 : Option Addr) (m0 e0 : Nat) (ys0 : List Nat) (A1 : Option Addr) (n1 c1 : Nat) (xs1 : List Nat) (B1 : Option Addr) (m1 e1 : Nat) (ys1 : List Nat) (a2 : Nat) (w : World) (hx0 : Slc (Value.float .f32) w w.heap.size A0 n0 xs0) (hn0 : n0 ≤ maxLen) (fx0 : ∀ x ∈ xs0, fits x) (hy0 : Slc (Value.float .f32) w w.heap.size B0 m0 ys0) (hm0 : m0 ≤ maxLen) (fy0 : ∀ x ∈ ys0, fits x) (hx1 : Slc (Value.float .f32) w w.heap.size A1 n1 xs1) (hn1 : n1 ≤ maxLen) (fx1 : ∀ x ∈ xs1, fits x) (hy1 : Slc (Value.float .f32) w w.heap.size B1 m1 ys1) (hm1 : m1 ≤ maxLen) (fy1 : ∀ x ∈ ys1, fits x) (fa2 : fits a2) (g0 : ((n0 + m0 : Nat) : Int) ≤ 1048576) (g1 : ((n1 + m1 : Nat) : Int) ≤ (1048576 - (n0 + m0 : Nat))) :
    Calls Try.prog 4 #[.agg #[.slice A0 n0 c0, .slice B0 m0 e0], .agg #[.slice A1 n1 c1, .slice B1 m1 e1], .float .f32 a2] w fun e w' => e = .returned (.bool true) ∧ Below w.heap.size w w' := by
  obtain rfl := hx0.1
  obtain rfl := hy0.1
  obtain rfl := hx1.1
  obtain rfl := hy1.1
  have lx0 : Hid (xs0.length ≤ 1048576) := by show _ ≤ _; omega
  have ly0 : Hid (ys0.length ≤ 1048576) := by show _ ≤ _; omega
  have lx1 : Hid (xs1.length ≤ 1048576) := by show _ ≤ _; omega
  have ly1 : Hid (ys1.length ≤ 1048576) := by show _ ≤ _; omega
  have SA0 := Lib.hid (fun w => c_szRose' A0 B0 _ c0 _ e0  1048576 w hn0 hm0 (by omega) (by omega))
  rw [sz_ok g0] at SA0
  generalize hleft0 : ((1048576 : Int) - ((xs0.length + ys0.length : Nat) : Int)) = left0 at *
  have dl0 : decide (left0 < 0) = false := by simp; omega
  have SA1 := Lib.hid (fun w => c_szRose' A1 B1 _ c1 _ e1  left0 w hn1 hm1 (by omega) (by omega))
  rw [sz_ok g1] at SA1
  generalize hleft1 : ((left0 : Int) - ((xs1.length + ys1.length : Nat) : Int)) = left1 at *
  have dl1 : decide (left1 < 0) = false := by simp; omega
  have TA0 := Lib.hid (fun w' (hg : Grew w w') => c_toRose A0 B0 _ c0 _ e0  xs0 ys0 w' (Slc.mono (Slc.grew hx0 (Nat.le_refl _) hg) (Below.size hg)) (Slc.mono (Slc.grew hy0 (Nat.le_refl _) hg) (Below.size hg)) lx0.out ly0.out)
  have TA1 := Lib.hid (fun w' (hg : Grew w w') => c_toRose A1 B1 _ c1 _ e1  xs1 ys1 w' (Slc.mono (Slc.grew hx1 (Nat.le_refl _) hg) (Below.size hg)) (Slc.mono (Slc.grew hy1 (Nat.le_refl _) hg) (Below.size hg)) lx1.out ly1.out)
  have CS := Lib.hid (fun lo0 hi0 v0 lo1 hi1 v1 (w : World) (h0 : RoseAt w lo0 hi0 v0 xs0 ys0 ) (s0 : hi0 ≤ w.heap.size) (h1 : RoseAt w lo1 hi1 v1 xs1 ys1 ) (s1 : hi1 ≤ w.heap.size) => c_specMix' lo0 hi0 lo1 hi1 v0 v1 xs0 ys0 xs1 ys1 a2 w h0 h1 s0 s1)
  have CI := Lib.hid (fun lo0 hi0 v0 lo1 hi1 v1 (w : World) (h0 : RoseAt w lo0 hi0 v0 xs0 ys0 ) (s0 : hi0 ≤ w.heap.size) (h1 : RoseAt w lo1 hi1 v1 xs1 ys1 ) (s1 : hi1 ≤ w.heap.size) => c_implMix' lo0 hi0 lo1 hi1 v0 v1 xs0 ys0 xs1 ys1 a2 w h0 h1 s0 s1 lx0.out ly0.out lx1.out ly1.out)
  have LD : Hid ((if isMix xs0 ys0 xs1 ys1 a2 then mixL xs0 xs1 a2 xs0.length else []).length ≤ 1048576 ∧ (if isMix xs0 ys0 xs1 ys1 a2 then mixL ys0 ys1 a2 xs0.length else []).length ≤ 1048576) := by show _ ∧ _; exact mix_len xs0 ys0 xs1 ys1 a2 lx0.out
  generalize (if isMix xs0 ys0 xs1 ys1 a2 then mixL xs0 xs1 a2 xs0.length else []) = D at CS CI LD
  generalize (if isMix xs0 ys0 xs1 ys1 a2 then mixL ys0 ys1 a2 xs0.length else []) = E at CS CI LD
  generalize (isMix xs0 ys0 xs1 ys1 a2) = S at CS CI
  clear hx0 hn0 fx0 hy0 hm0 fy0 hx1 hn1 fx1 hy1 hm1 fy1 fa2 g0 g1
  have G : Hid (Grew w w) := grew_refl w
  have W0 : Hid (Grew w ((w.alloc (.cells #[.slice A0 xs0.length c0, .slice B0 ys0.length e0] 32)).alloc (.cells #[.slice A1 xs1.length c1, .slice B1 ys1.length e1] 32))) := by show Grew _ _; (show Below _ _ _; (repeat (first | exact Below.refl _ _ | refine ext_below ?_ (by first | omega | (simp only [size_ext, heap_push, Array.size_push, World.heap_drewN]; omega) | (simp; omega)) _ _ | refine below_draws ?_ _ | refine Below.alloc ?_ (by first | omega | (simp; done) | (simp; omega)) _ | refine Below.setCell ?_ (by first | omega | (simp; done) | (simp; omega)) _ | refine below_then (by assumption) (by first | omega | (simp; done) | (simp; omega)) ?_)))
  clear hleft0
  clear hleft1
  go_enter Try.func4, Try.ntmps4
  go_wp2_with fail
  refine (SA0.out _).mono ?_
  rintro e w1 ⟨rfl, hg0⟩
  have hg : Grew w w1 := grew_trans W0.out hg0
  replace G := Lib.hid (grew_trans G.out hg)
  have A0b := Lib.hid ((Loc.ro (w := ((w.alloc (.cells #[.slice A0 xs0.length c0, .slice B0 ys0.length e0] 32)).alloc (.cells #[.slice A1 xs1.length c1, .slice B1 ys1.length e1] 32))) (b := w.heap.size) (X := .slice A0 xs0.length c0) (Y := .slice B0 ys0.length e0)  (by refine ⟨?_, ?_⟩ <;> simp [go_sem]) (by simp <;> omega)).grew hg0)
  have A1b := Lib.hid ((Loc.ro (w := ((w.alloc (.cells #[.slice A0 xs0.length c0, .slice B0 ys0.length e0] 32)).alloc (.cells #[.slice A1 xs1.length c1, .slice B1 ys1.length e1] 32))) (b := w.heap.size + 1) (X := .slice A1 xs1.length c1) (Y := .slice B1 ys1.length e1)  (by refine ⟨?_, ?_⟩ <;> simp [go_sem]) (by simp <;> omega)).grew hg0)
  have N1 : Hid (w.heap.size + 2 ≤ w1.heap.size) := by have := Below.size hg0; (try simp at this); show _ ≤ _; omega
  clear hg hg0
  clear W0
  clear SA0
  obtain ⟨a1b_0, a1b_1⟩ := A1b.out.now
  have a1b_b := A1b.out.lt
  go_wp2_with fail
  refine (SA1.out _).mono ?_
  rintro e w2 ⟨rfl, hg0⟩
  clear a1b_0 a1b_1 a1b_b
  have hg : Grew w1 w2 := hg0
  replace A0b := Lib.hid (A0b.out.grew hg)
  replace A1b := Lib.hid (A1b.out.grew hg)
  replace G := Lib.hid (grew_trans G.out hg)
  have N2 : Hid (w1.heap.size ≤ w2.heap.size) := by have := Below.size hg0; (try simp at this); show _ ≤ _; omega
  clear hg hg0
  clear SA1
  obtain ⟨a0b_0, a0b_1⟩ := A0b.out.now
  have a0b_b := A0b.out.lt
  obtain ⟨a1b_0, a1b_1⟩ := A1b.out.now
  have a1b_b := A1b.out.lt
  go_wp2_with fail
  try simp only [List.append_eq, List.cons_append, List.nil_append]
  refine wp_region_any (by kernel_rfl) ?_
  refine wpAny_edge (x := 10) (p := 8) rfl rfl (by decide) rfl (by kernel_rfl) (by kernel_rfl) (by kernel_rfl) rfl rfl (fun _ _ _ _ h => h) _ _ _ _ (by kernel_rfl) ?_
  simp only [edged, List.modify_toArray, List.modify_succ_cons, List.modify_zero_cons, List.push_toArray, List.cons_append, List.nil_append]
  refine wpAny_tail'' [31, 33, 35, 8] [(31, RoseBy w2.heap.size xs0 ys0 ), (33, RoseBy w2.heap.size xs1 ys1 ), (35, TupBy w2.heap.size D E S), (8, BoxBy w2.heap.size)] [0, 1, 2, 3, 4, 5, 6, 7, 8, 9] [10, 11] (by kernel_rfl) (by kernel_rfl) (by kernel_rfl) (by kernel_rfl) (by kernel_rfl) (by kernel_rfl) (by kernel_rfl) (by kernel_rfl) (by simp) (by kernel_rfl) (by kernel_rfl) (by kernel_rfl) ?_
  simp only [picks, List.filterMap_cons, List.filterMap_nil, List.getElem?_cons_zero, List.getElem?_cons_succ]
  try go_simp
  repeat (first | (refine wpG_skip rfl ?_; try go_simp) | (refine wpG_want rfl (fun K hK => ?_); first | (refine gG_fbin rfl rfl _ _ _ rfl rfl rfl ?_; intro z hz hzw; go_simp; refine hK _ ?_; clear hK K) | (intro wq hq hp; obtain ⟨hqc, hqf⟩ := bcell hq; go_simp; first | (refine hK _ ?_; clear hK K; try clear hp; try clear hqc hqf; try clear hq; try clear wq) | ((with_reducible refine g_at 18 (args := #[.agg #[.slice A0 xs0.length c0, .slice B0 ys0.length e0]]) ?_); refine ⟨(TA0.out wq (grew_trans G.out hq)).mono fun e w3 ⟨v, he, h, hg⟩ => ⟨v, he, ⟨_, Below.size hq, h⟩, hg⟩, ?_⟩; rintro v w3 hg3 hfa; refine hK _ ?_; clear hK K; try clear hp; try clear hqc hqf; try clear hq; try clear wq) | ((with_reducible refine g_at 18 (args := #[.agg #[.slice A1 xs1.length c1, .slice B1 ys1.length e1]]) ?_); refine ⟨(TA1.out wq (grew_trans G.out hq)).mono fun e w3 ⟨v, he, h, hg⟩ => ⟨v, he, ⟨_, Below.size hq, h⟩, hg⟩, ?_⟩; rintro v w3 hg3 hfb; refine hK _ ?_; clear hK K; try clear hp; try clear hqc hqf; try clear hq; try clear wq) | ((with_reducible refine g_at 17 ?_); obtain ⟨lo, hi, _, hs, h1⟩ := RoseBy.get (hp 31 (by simp) (by decide)) hfa.ne rfl; obtain ⟨lo2, hi2, _, hs2, h2⟩ := RoseBy.get (hp 33 (by simp) (by decide)) hfb.ne rfl; refine ⟨(CS.out _ _ _ _ _ _ wq h1 hs h2 hs2).mono fun e w3 ⟨v, zs, us, he, hr, hzs, hus, hg⟩ => ⟨_, he, ⟨v, zs, us, _, rfl, Below.size hq, hr, hzs, hus⟩, hg⟩, ?_⟩; rintro v w3 hg3 ⟨vt, zt, ut, lot, rfl, hlot, hrt, hzt, hut⟩; refine hK _ ?_; clear hK K; try clear hp; try clear hqc hqf; try clear hq; try clear wq) | (refine ⟨boxBy_new (Below.size hq), ?_⟩; refine hK _ ?_; clear hK K; try clear hp; try clear hqc hqf; try clear hq))))
  refine wpG_nil ?_
  intro w3 hq hal
  obtain ⟨hqc, hqf⟩ := bcell hq
  have hqs := Below.size hq
  try simp at hqs
  clear a0b_0 a0b_1 a0b_b a1b_0 a1b_1 a1b_b
  clear hqc hqf
  have hbx := BoxBy.get (hal 8 (by simp)) (by simp [undef]) rfl
  have htp := TupBy.get (hal 35 (by simp)) (by simp [undef]) rfl
  clear hal hrt hzt hut hlot
  obtain ⟨bbF, eb, hb, hbs, hbox, hisb⟩ := hbx
  obtain ⟨v, zF, uF, lo, hi, et, hlo, hhi, hr, hz, hu⟩ := htp
  simp at eb et
  rw [eb]
  subst et
  obtain ⟨XF, xF, YF, yF, rfl, _, _⟩ := hr.parts
  obtain ⟨⟨b0, b1⟩, b2, b3⟩ := hbox
  obtain ⟨a0b_0, a0b_1⟩ := (A0b.out.grew hq).now
  have a0b_b := (A0b.out.grew hq).lt
  have n0 : ¬ bbF = w.heap.size := by have := A0b.out.lt; omega
  have n1 : ¬ w.heap.size = bbF := by omega
  go_wp2_with fail
  clear a0b_0 a0b_1 a0b_b n0 n1
  replace A0b := Lib.hid (((A0b.out.grew hq).set bbF 0 (.slice XF zF.length xF) (.inr (Nat.le_trans A0b.out.le hb))).set bbF 1 (.slice YF uF.length yF) (.inr (Nat.le_trans A0b.out.le hb)))
  replace A1b := Lib.hid (((A1b.out.grew hq).set bbF 0 (.slice XF zF.length xF) (.inr (Nat.le_trans A1b.out.le hb))).set bbF 1 (.slice YF uF.length yF) (.inr (Nat.le_trans A1b.out.le hb)))
  have hGs := Below.size G.out
  replace G := Lib.hid (grew_set (i := 1) (v := .slice YF uF.length yF) (grew_set (i := 0) (v := .slice XF zF.length xF) (grew_trans G.out hq) (Nat.le_trans hGs hb)) (Nat.le_trans hGs hb))
  have hsz : ((w3.setCell ⟨bbF, 0, none⟩ (.slice XF zF.length xF)).setCell ⟨bbF, 1, none⟩ (.slice YF uF.length yF)).heap.size = w3.heap.size := by simp [World.setCell]
  have P := Lib.hid (Loc.ro (RoAt.put (U := .slice XF zF.length xF) (V := .slice YF uF.length yF) (⟨b0, b1⟩ : RoAt w3 bbF _ _)) (by rw [hsz]; exact hbs))
  have F := Lib.hid (Loc.rose ((hr.set hisb 0 (.slice XF zF.length xF)).set (hisb.set bbF 0 (.slice XF zF.length xF)) 1 (.slice YF uF.length yF)) (by rw [hsz]; exact hhi))
  have N3 : Hid (w2.heap.size ≤ bbF ∧ w2.heap.size ≤ lo ∧ bbF < ((w3.setCell ⟨bbF, 0, none⟩ (.slice XF zF.length xF)).setCell ⟨bbF, 1, none⟩ (.slice YF uF.length yF)).heap.size ∧ hi ≤ ((w3.setCell ⟨bbF, 0, none⟩ (.slice XF zF.length xF)).setCell ⟨bbF, 1, none⟩ (.slice YF uF.length yF)).heap.size ∧ w2.heap.size ≤ ((w3.setCell ⟨bbF, 0, none⟩ (.slice XF zF.length xF)).setCell ⟨bbF, 1, none⟩ (.slice YF uF.length yF)).heap.size) := by have := Below.size hq; show _ ∧ _; rw [hsz]; omega
  generalize ((w3.setCell ⟨bbF, 0, none⟩ (.slice XF zF.length xF)).setCell ⟨bbF, 1, none⟩ (.slice YF uF.length yF)) = w3x at *
  have ZF := Lib.hid hz
  have UF := Lib.hid hu
  have LF : Hid (zF.length ≤ 1048576 ∧ uF.length ≤ 1048576) := by show _ ∧ _; exact ⟨by rw [len_of_map ZF.out]; exact LD.out.1, by rw [len_of_map UF.out]; exact LD.out.2⟩
  clear hr hz hu hisb b0 b1 b2 b3 hq hqs hhi hlo hb hbs hsz eb hGs
  refine (TA0.out _ G.out).mono ?_
  rintro e w4 ⟨v, rfl, hr, hg0⟩
  have hg : Grew w3x w4 := hg0
  replace A0b := Lib.hid (A0b.out.grew hg)
  replace A1b := Lib.hid (A1b.out.grew hg)
  replace F := Lib.hid (F.out.grew hg)
  replace P := Lib.hid (P.out.grew hg)
  replace G := Lib.hid (grew_trans G.out hg)
  have N4 : Hid (w3x.heap.size ≤ w4.heap.size) := by have := Below.size hg0; (try simp at this); show _ ≤ _; omega
  try rw [size_al] at hr
  clear hg hg0
  obtain ⟨XC0, xC0, YC0, yC0, rfl, _, _⟩ := hr.parts
  have C0 := Lib.hid (Loc.rose hr (Nat.le_refl _))
  clear hr
  obtain ⟨a1b_0, a1b_1⟩ := A1b.out.now
  have a1b_b := A1b.out.lt
  go_wp2_with fail
  have hal : Grew w4 (w4.alloc (.cells #[.slice XC0 xs0.length xC0, .slice YC0 ys0.length yC0] 34)) := grew_al (grew_refl _) _
  refine (TA1.out _ (grew_trans G.out hal)).mono ?_
  rintro e w5 ⟨v, rfl, hr, hg0⟩
  clear a1b_0 a1b_1 a1b_b
  have hg : Grew w4 w5 := grew_trans hal hg0
  replace A0b := Lib.hid (A0b.out.grew hg)
  replace A1b := Lib.hid (A1b.out.grew hg)
  replace F := Lib.hid (F.out.grew hg)
  replace P := Lib.hid (P.out.grew hg)
  replace C0 := Lib.hid (C0.out.grew hg)
  replace G := Lib.hid (grew_trans G.out hg)
  have Q0 := Lib.hid ((Loc.ro (w := (w4.alloc (.cells #[.slice XC0 xs0.length xC0, .slice YC0 ys0.length yC0] 34))) (b := w4.heap.size) (X := .slice XC0 xs0.length xC0) (Y := .slice YC0 ys0.length yC0)  (by refine ⟨?_, ?_⟩ <;> simp [go_sem]) (by simp <;> omega)).grew hg0)
  have N5 : Hid (w4.heap.size + 1 ≤ w5.heap.size) := by have := Below.size hg0; (try simp at this); show _ ≤ _; omega
  try rw [size_al] at hr
  clear hg hg0 hal
  obtain ⟨XC1, xC1, YC1, yC1, rfl, _, _⟩ := hr.parts
  have C1 := Lib.hid (Loc.rose hr (Nat.le_refl _))
  clear hr
  obtain ⟨q0_0, q0_1⟩ := Q0.out.now
  have q0_b := Q0.out.lt
  go_wp2_with fail
  have hal : Grew w5 (w5.alloc (.cells #[.slice XC1 xs1.length xC1, .slice YC1 ys1.length yC1] 34)) := grew_al (grew_refl _) _
  refine (CI.out _ _ _ _ _ _ _ (C0.out.grew hal).now (C0.out.grew hal).le (C1.out.grew hal).now (C1.out.grew hal).le).mono ?_
  rintro e w6 ⟨v, zV, uV, rfl, hr, hz, hu, hg0⟩
  clear q0_0 q0_1 q0_b
  have hg : Grew w5 w6 := grew_trans hal hg0
  replace A0b := Lib.hid (A0b.out.grew hg)
  replace A1b := Lib.hid (A1b.out.grew hg)
  replace F := Lib.hid (F.out.grew hg)
  replace P := Lib.hid (P.out.grew hg)
  replace C0 := Lib.hid (C0.out.grew hg)
  replace Q0 := Lib.hid (Q0.out.grew hg)
  replace C1 := Lib.hid (C1.out.grew hg)
  replace G := Lib.hid (grew_trans G.out hg)
  have Q1 := Lib.hid ((Loc.ro (w := (w5.alloc (.cells #[.slice XC1 xs1.length xC1, .slice YC1 ys1.length yC1] 34))) (b := w5.heap.size) (X := .slice XC1 xs1.length xC1) (Y := .slice YC1 ys1.length yC1)  (by refine ⟨?_, ?_⟩ <;> simp [go_sem]) (by simp <;> omega)).grew hg0)
  have N6 : Hid (w5.heap.size + 1 ≤ w6.heap.size) := by have := Below.size hg0; (try simp at this); show _ ≤ _; omega
  try rw [size_al] at hr
  clear hg hg0 hal
  obtain ⟨XV, xV, YV, yV, rfl, _, _⟩ := hr.parts
  have V := Lib.hid (Loc.rose hr (Nat.le_refl _))
  have ZV := Lib.hid hz
  have UV := Lib.hid hu
  have LV : Hid (zV.length ≤ 1048576 ∧ uV.length ≤ 1048576) := by show _ ∧ _; exact ⟨by rw [len_of_map ZV.out]; exact LD.out.1, by rw [len_of_map UV.out]; exact LD.out.2⟩
  clear hr hz hu
  have ss : (S != S) = false := by simp
  obtain ⟨p_0, p_1⟩ := P.out.now
  have p_b := P.out.lt
  go_wp2_with fail
  have hal : Grew w6 (w6.alloc (.cells #[.slice XV zV.length xV, .slice YV uV.length yV] 34)) := grew_al (grew_refl _) _
  refine (c_eqRose _ _ _ _ _ _ zV uV zF uF _ (V.out.grew hal).now (F.out.grew hal).now (ZV.out.trans ZF.out.symm) (UV.out.trans UF.out.symm) LV.out.1 LV.out.2).mono ?_
  rintro e w7 ⟨rfl, hg0⟩
  clear p_0 p_1 p_b
  have hg : Grew w6 w7 := grew_trans hal hg0
  replace A0b := Lib.hid (A0b.out.grew hg)
  replace A1b := Lib.hid (A1b.out.grew hg)
  replace F := Lib.hid (F.out.grew hg)
  replace P := Lib.hid (P.out.grew hg)
  replace C0 := Lib.hid (C0.out.grew hg)
  replace Q0 := Lib.hid (Q0.out.grew hg)
  replace C1 := Lib.hid (C1.out.grew hg)
  replace Q1 := Lib.hid (Q1.out.grew hg)
  replace V := Lib.hid (V.out.grew hg)
  replace G := Lib.hid (grew_trans G.out hg)
  have W := Lib.hid ((Loc.ro (w := (w6.alloc (.cells #[.slice XV zV.length xV, .slice YV uV.length yV] 34))) (b := w6.heap.size) (X := .slice XV zV.length xV) (Y := .slice YV uV.length yV)  (by refine ⟨?_, ?_⟩ <;> simp [go_sem]) (by simp <;> omega)).grew hg0)
  have N7 : Hid (w6.heap.size + 1 ≤ w7.heap.size) := by have := Below.size hg0; (try simp at this); show _ ≤ _; omega
  clear hg hg0 hal
  obtain ⟨a0b_0, a0b_1⟩ := A0b.out.now
  have a0b_b := A0b.out.lt
  obtain ⟨q0_0, q0_1⟩ := Q0.out.now
  have q0_b := Q0.out.lt
  go_wp2_with fail
  try simp only [List.append_eq, List.cons_append, List.nil_append]
  refine wp_region_grow [60] [(60, RoseBy w7.heap.size xs0 ys0 ), (61, Is (.bool true))] (by kernel_rfl) (by kernel_rfl) (by kernel_rfl) (by kernel_rfl) ?_
  repeat (first | (refine wpG_skip rfl ?_; try go_simp) | (refine wpG_want rfl (fun K hK => ?_); first | (refine gG_fbin rfl rfl _ _ _ rfl rfl rfl ?_; intro z hz hzw; go_simp; refine hK _ ?_; clear hK K) | (intro wq hq hp; obtain ⟨hqc, hqf⟩ := bcell hq; go_simp; first | (refine hK _ ?_; clear hK K; try clear hp; try clear hqc hqf; try clear hq; try clear wq) | ((with_reducible refine g_at 18 ?_); refine ⟨(TA0.out wq (grew_trans G.out hq)).mono fun e w3 ⟨v, he, h, hg⟩ => ⟨v, he, ⟨_, Below.size hq, h⟩, hg⟩, ?_⟩; rintro v w3 hg3 hfa; refine hK _ ?_; clear hK K; try clear hp; try clear hqc hqf; try clear hq; try clear wq) | ((with_reducible refine g_at 20 ?_); obtain ⟨lo, hi, _, hs, h1⟩ := RoseBy.get (hp 60 (by simp) (by decide)) hfa.ne rfl; refine ⟨(c_eqRose _ _ lo hi _ _ xs0 ys0 xs0 ys0   wq (C0.out.grew hq).now h1 rfl rfl lx0.out ly0.out).mono fun e w3 ⟨he, hg⟩ => ⟨_, he, rfl, hg⟩, ?_⟩; rintro v w3 hg3 rfl; refine hK _ ?_; clear hK K; try clear hp; try clear hqc hqf; try clear hq; try clear wq))))
  refine wpG_nil ?_
  intro w8 hq hal
  obtain ⟨hqc, hqf⟩ := bcell hq
  have hqs := Below.size hq
  try simp at hqs
  clear a0b_0 a0b_1 a0b_b q0_0 q0_1 q0_b
  clear hqc hqf hal
  replace A0b := Lib.hid (A0b.out.grew hq)
  replace A1b := Lib.hid (A1b.out.grew hq)
  replace F := Lib.hid (F.out.grew hq)
  replace P := Lib.hid (P.out.grew hq)
  replace C0 := Lib.hid (C0.out.grew hq)
  replace Q0 := Lib.hid (Q0.out.grew hq)
  replace C1 := Lib.hid (C1.out.grew hq)
  replace Q1 := Lib.hid (Q1.out.grew hq)
  replace V := Lib.hid (V.out.grew hq)
  replace W := Lib.hid (W.out.grew hq)
  replace G := Lib.hid (grew_trans G.out hq)
  have N8 : Hid (w7.heap.size ≤ w8.heap.size) := Below.size hq
  clear hq hqs
  obtain ⟨a1b_0, a1b_1⟩ := A1b.out.now
  have a1b_b := A1b.out.lt
  obtain ⟨q1_0, q1_1⟩ := Q1.out.now
  have q1_b := Q1.out.lt
  go_wp2_with fail
  try simp only [List.append_eq, List.cons_append, List.nil_append]
  refine wp_region_grow [65] [(65, RoseBy w8.heap.size xs1 ys1 ), (66, Is (.bool true))] (by kernel_rfl) (by kernel_rfl) (by kernel_rfl) (by kernel_rfl) ?_
  repeat (first | (refine wpG_skip rfl ?_; try go_simp) | (refine wpG_want rfl (fun K hK => ?_); first | (refine gG_fbin rfl rfl _ _ _ rfl rfl rfl ?_; intro z hz hzw; go_simp; refine hK _ ?_; clear hK K) | (intro wq hq hp; obtain ⟨hqc, hqf⟩ := bcell hq; go_simp; first | (refine hK _ ?_; clear hK K; try clear hp; try clear hqc hqf; try clear hq; try clear wq) | ((with_reducible refine g_at 18 ?_); refine ⟨(TA1.out wq (grew_trans G.out hq)).mono fun e w3 ⟨v, he, h, hg⟩ => ⟨v, he, ⟨_, Below.size hq, h⟩, hg⟩, ?_⟩; rintro v w3 hg3 hfa; refine hK _ ?_; clear hK K; try clear hp; try clear hqc hqf; try clear hq; try clear wq) | ((with_reducible refine g_at 20 ?_); obtain ⟨lo, hi, _, hs, h1⟩ := RoseBy.get (hp 65 (by simp) (by decide)) hfa.ne rfl; refine ⟨(c_eqRose _ _ lo hi _ _ xs1 ys1 xs1 ys1   wq (C1.out.grew hq).now h1 rfl rfl lx1.out ly1.out).mono fun e w3 ⟨he, hg⟩ => ⟨_, he, rfl, hg⟩, ?_⟩; rintro v w3 hg3 rfl; refine hK _ ?_; clear hK K; try clear hp; try clear hqc hqf; try clear hq; try clear wq))))
  refine wpG_nil ?_
  intro w9 hq hal
  obtain ⟨hqc, hqf⟩ := bcell hq
  have hqs := Below.size hq
  try simp at hqs
  clear a1b_0 a1b_1 a1b_b q1_0 q1_1 q1_b
  clear hqc hqf hal
  replace A0b := Lib.hid (A0b.out.grew hq)
  replace A1b := Lib.hid (A1b.out.grew hq)
  replace F := Lib.hid (F.out.grew hq)
  replace P := Lib.hid (P.out.grew hq)
  replace C0 := Lib.hid (C0.out.grew hq)
  replace Q0 := Lib.hid (Q0.out.grew hq)
  replace C1 := Lib.hid (C1.out.grew hq)
  replace Q1 := Lib.hid (Q1.out.grew hq)
  replace V := Lib.hid (V.out.grew hq)
  replace W := Lib.hid (W.out.grew hq)
  replace G := Lib.hid (grew_trans G.out hq)
  have N9 : Hid (w8.heap.size ≤ w9.heap.size) := Below.size hq
  clear hq hqs
  obtain ⟨q0_0, q0_1⟩ := Q0.out.now
  have q0_b := Q0.out.lt
  go_wp2_with fail
  refine (c_markRose _ _ _ xs0 ys0  (1) _ C0.out.now C0.out.le lx0.out ly0.out (by have := lx0.out; have := lx0.out; have := ly0.out; have := lx1.out; have := ly1.out;  omega) (by have := lx0.out; have := lx0.out; have := ly0.out; have := lx1.out; have := ly1.out;  omega)).mono ?_
  rintro e w10 ⟨rfl, _, ho⟩
  clear q0_0 q0_1 q0_b
  have nn : _ ∧ _ ∧ _ ∧ _ ∧ _ ∧ _ ∧ _ ∧ _ ∧ _ := ⟨N1.out, N2.out, N3.out, N4.out, N5.out, N6.out, N7.out, N8.out, N9.out⟩
  replace A0b := Lib.hid (A0b.out.wrote ho (.inl (by omega)))
  replace A1b := Lib.hid (A1b.out.wrote ho (.inl (by omega)))
  replace F := Lib.hid (F.out.wrote ho (.inl (by omega)))
  replace P := Lib.hid (P.out.wrote ho (.inl (by omega)))
  replace Q0 := Lib.hid (Q0.out.wrote ho (.inr (by omega)))
  replace C1 := Lib.hid (C1.out.wrote ho (.inr (by omega)))
  replace Q1 := Lib.hid (Q1.out.wrote ho (.inr (by omega)))
  replace V := Lib.hid (V.out.wrote ho (.inr (by omega)))
  replace W := Lib.hid (W.out.wrote ho (.inr (by omega)))
  replace G := Lib.hid (Wrote.below G.out ho (Nat.le_refl _) (by omega))
  have N10 : Hid (w9.heap.size ≤ w10.heap.size) := ho.size
  clear nn
  clear C0 ho
  clear Q0
  obtain ⟨q1_0, q1_1⟩ := Q1.out.now
  have q1_b := Q1.out.lt
  go_wp2_with fail
  refine (c_markRose _ _ _ xs1 ys1  (1 + (xs0.length : Int) + (ys0.length : Int)) _ C1.out.now C1.out.le lx1.out ly1.out (by have := lx1.out; have := lx0.out; have := ly0.out; have := lx1.out; have := ly1.out;  omega) (by have := lx1.out; have := lx0.out; have := ly0.out; have := lx1.out; have := ly1.out;  omega)).mono ?_
  rintro e w11 ⟨rfl, _, ho⟩
  clear q1_0 q1_1 q1_b
  have nn : _ ∧ _ ∧ _ ∧ _ ∧ _ ∧ _ ∧ _ ∧ _ ∧ _ ∧ _ := ⟨N1.out, N2.out, N3.out, N4.out, N5.out, N6.out, N7.out, N8.out, N9.out, N10.out⟩
  replace A0b := Lib.hid (A0b.out.wrote ho (.inl (by omega)))
  replace A1b := Lib.hid (A1b.out.wrote ho (.inl (by omega)))
  replace F := Lib.hid (F.out.wrote ho (.inl (by omega)))
  replace P := Lib.hid (P.out.wrote ho (.inl (by omega)))
  replace Q1 := Lib.hid (Q1.out.wrote ho (.inr (by omega)))
  replace V := Lib.hid (V.out.wrote ho (.inr (by omega)))
  replace W := Lib.hid (W.out.wrote ho (.inr (by omega)))
  replace G := Lib.hid (Wrote.below G.out ho (Nat.le_refl _) (by omega))
  have N11 : Hid (w10.heap.size ≤ w11.heap.size) := ho.size
  clear nn
  clear C1 ho
  clear Q1
  have dk : decide (1 + (xs0.length : Int) + (ys0.length : Int) + (xs1.length : Int) + (ys1.length : Int) < 0) = false := by simp; omega
  obtain ⟨p_0, p_1⟩ := P.out.now
  have p_b := P.out.lt
  obtain ⟨w_0, w_1⟩ := W.out.now
  have w_b := W.out.lt
  go_wp2_with fail
  refine (c_eqRose _ _ _ _ _ _ zV uV zF uF _ V.out.now F.out.now (ZV.out.trans ZF.out.symm) (UV.out.trans UF.out.symm) LV.out.1 LV.out.2).mono ?_
  rintro e w12 ⟨rfl, hg0⟩
  clear p_0 p_1 p_b w_0 w_1 w_b
  have hg : Grew w11 w12 := hg0
  replace A0b := Lib.hid (A0b.out.grew hg)
  replace A1b := Lib.hid (A1b.out.grew hg)
  replace F := Lib.hid (F.out.grew hg)
  replace P := Lib.hid (P.out.grew hg)
  replace V := Lib.hid (V.out.grew hg)
  replace W := Lib.hid (W.out.grew hg)
  replace G := Lib.hid (grew_trans G.out hg)
  have N12 : Hid (w11.heap.size ≤ w12.heap.size) := by have := Below.size hg0; (try simp at this); show _ ≤ _; omega
  clear hg hg0
  clear dk
  obtain ⟨w_0, w_1⟩ := W.out.now
  have w_b := W.out.lt
  go_wp2_with fail
  refine (c_markRose _ _ _ zV uV  1 _ V.out.now V.out.le LV.out.1 LV.out.2 (by omega) (by omega)).mono ?_
  rintro e w13 ⟨rfl, hr, ho⟩
  clear w_0 w_1 w_b
  have nn : _ ∧ _ ∧ _ ∧ _ ∧ _ ∧ _ ∧ _ ∧ _ ∧ _ ∧ _ ∧ _ ∧ _ := ⟨N1.out, N2.out, N3.out, N4.out, N5.out, N6.out, N7.out, N8.out, N9.out, N10.out, N11.out, N12.out⟩
  replace A0b := Lib.hid (A0b.out.wrote ho (.inl (by omega)))
  replace A1b := Lib.hid (A1b.out.wrote ho (.inl (by omega)))
  replace F := Lib.hid (F.out.wrote ho (.inl (by omega)))
  replace P := Lib.hid (P.out.wrote ho (.inl (by omega)))
  replace W := Lib.hid (W.out.wrote ho (.inr (by omega)))
  replace G := Lib.hid (Wrote.below G.out ho (Nat.le_refl _) (by omega))
  have N13 : Hid (w12.heap.size ≤ w13.heap.size) := ho.size
  clear nn
  replace V := Lib.hid (Loc.rose hr (Nat.le_trans V.out.le ho.size))
  clear hr ho
  have dm : decide (1 + (zV.length : Int) + (uV.length : Int) < 0) = false := by simp; omega
  obtain ⟨w_0, w_1⟩ := W.out.now
  have w_b := W.out.lt
  go_wp2_with fail
  refine (c_heldRose _ _ zV.length uV.length _  1 _ V.out.now LV.out.1 LV.out.2 (by omega) (by omega)).mono ?_
  rintro e w14 ⟨rfl, hg0⟩
  clear w_0 w_1 w_b
  have hg : Grew w13 w14 := hg0
  replace A0b := Lib.hid (A0b.out.grew hg)
  replace A1b := Lib.hid (A1b.out.grew hg)
  replace F := Lib.hid (F.out.grew hg)
  replace P := Lib.hid (P.out.grew hg)
  replace V := Lib.hid (V.out.grew hg)
  replace W := Lib.hid (W.out.grew hg)
  replace G := Lib.hid (grew_trans G.out hg)
  have N14 : Hid (w13.heap.size ≤ w14.heap.size) := by have := Below.size hg0; (try simp at this); show _ ≤ _; omega
  clear hg hg0
  obtain ⟨a0b_0, a0b_1⟩ := A0b.out.now
  have a0b_b := A0b.out.lt
  obtain ⟨a1b_0, a1b_1⟩ := A1b.out.now
  have a1b_b := A1b.out.lt
  go_wp2_with fail
  try simp only [List.append_eq, List.cons_append, List.nil_append]
  refine wp_region_any (by kernel_rfl) ?_
  refine wpAny_edge (x := 10) (p := 8) rfl rfl (by decide) rfl (by kernel_rfl) (by kernel_rfl) (by kernel_rfl) rfl rfl (fun _ _ _ _ h => h) _ _ _ _ (by kernel_rfl) ?_
  simp only [edged, List.modify_toArray, List.modify_succ_cons, List.modify_zero_cons, List.push_toArray, List.cons_append, List.nil_append]
  refine wpAny_tail'' [100, 102, 104, 17] [(100, RoseBy w14.heap.size xs0 ys0 ), (102, RoseBy w14.heap.size xs1 ys1 ), (104, TupBy w14.heap.size D E S), (17, BoxBy w14.heap.size)] [0, 1, 2, 3, 4, 5, 6, 7, 8, 9] [10, 11] (by kernel_rfl) (by kernel_rfl) (by kernel_rfl) (by kernel_rfl) (by kernel_rfl) (by kernel_rfl) (by kernel_rfl) (by kernel_rfl) (by simp) (by kernel_rfl) (by kernel_rfl) (by kernel_rfl) ?_
  simp only [picks, List.filterMap_cons, List.filterMap_nil, List.getElem?_cons_zero, List.getElem?_cons_succ]
  try go_simp
  repeat (first | (refine wpG_skip rfl ?_; try go_simp) | (refine wpG_want rfl (fun K hK => ?_); first | (refine gG_fbin rfl rfl _ _ _ rfl rfl rfl ?_; intro z hz hzw; go_simp; refine hK _ ?_; clear hK K) | (intro wq hq hp; obtain ⟨hqc, hqf⟩ := bcell hq; go_simp; first | (refine hK _ ?_; clear hK K; try clear hp; try clear hqc hqf; try clear hq; try clear wq) | ((with_reducible refine g_at 18 (args := #[.agg #[.slice A0 xs0.length c0, .slice B0 ys0.length e0]]) ?_); refine ⟨(TA0.out wq (grew_trans G.out hq)).mono fun e w3 ⟨v, he, h, hg⟩ => ⟨v, he, ⟨_, Below.size hq, h⟩, hg⟩, ?_⟩; rintro v w3 hg3 hfa; refine hK _ ?_; clear hK K; try clear hp; try clear hqc hqf; try clear hq; try clear wq) | ((with_reducible refine g_at 18 (args := #[.agg #[.slice A1 xs1.length c1, .slice B1 ys1.length e1]]) ?_); refine ⟨(TA1.out wq (grew_trans G.out hq)).mono fun e w3 ⟨v, he, h, hg⟩ => ⟨v, he, ⟨_, Below.size hq, h⟩, hg⟩, ?_⟩; rintro v w3 hg3 hfb; refine hK _ ?_; clear hK K; try clear hp; try clear hqc hqf; try clear hq; try clear wq) | ((with_reducible refine g_at 19 ?_); obtain ⟨lo, hi, _, hs, h1⟩ := RoseBy.get (hp 100 (by simp) (by decide)) hfa.ne rfl; obtain ⟨lo2, hi2, _, hs2, h2⟩ := RoseBy.get (hp 102 (by simp) (by decide)) hfb.ne rfl; refine ⟨(CI.out _ _ _ _ _ _ wq h1 hs h2 hs2).mono fun e w3 ⟨v, zs, us, he, hr, hzs, hus, hg⟩ => ⟨_, he, ⟨v, zs, us, _, rfl, Below.size hq, hr, hzs, hus⟩, hg⟩, ?_⟩; rintro v w3 hg3 ⟨vt, zt, ut, lot, rfl, hlot, hrt, hzt, hut⟩; refine hK _ ?_; clear hK K; try clear hp; try clear hqc hqf; try clear hq; try clear wq) | (refine ⟨boxBy_new (Below.size hq), ?_⟩; refine hK _ ?_; clear hK K; try clear hp; try clear hqc hqf; try clear hq))))
  refine wpG_nil ?_
  intro w15 hq hal
  obtain ⟨hqc, hqf⟩ := bcell hq
  have hqs := Below.size hq
  try simp at hqs
  clear a0b_0 a0b_1 a0b_b a1b_0 a1b_1 a1b_b
  clear hqc hqf
  have hbx := BoxBy.get (hal 17 (by simp)) (by simp [undef]) rfl
  have htp := TupBy.get (hal 104 (by simp)) (by simp [undef]) rfl
  clear hal hrt hzt hut hlot
  obtain ⟨bbH, eb, hb, hbs, hbox, hisb⟩ := hbx
  obtain ⟨v, zH, uH, lo, hi, et, hlo, hhi, hr, hz, hu⟩ := htp
  simp at eb et
  rw [eb]
  subst et
  obtain ⟨XH, xH, YH, yH, rfl, _, _⟩ := hr.parts
  obtain ⟨⟨b0, b1⟩, b2, b3⟩ := hbox
  obtain ⟨p_0, p_1⟩ := (P.out.grew hq).now
  have p_b := (P.out.grew hq).lt
  have n0 : ¬ bbH = bbF := by have := P.out.lt; omega
  have n1 : ¬ bbF = bbH := by omega
  go_wp2_with fail
  clear p_0 p_1 p_b n0 n1
  replace A0b := Lib.hid (((A0b.out.grew hq).set bbH 0 (.slice XH zH.length xH) (.inr (Nat.le_trans A0b.out.le hb))).set bbH 1 (.slice YH uH.length yH) (.inr (Nat.le_trans A0b.out.le hb)))
  replace A1b := Lib.hid (((A1b.out.grew hq).set bbH 0 (.slice XH zH.length xH) (.inr (Nat.le_trans A1b.out.le hb))).set bbH 1 (.slice YH uH.length yH) (.inr (Nat.le_trans A1b.out.le hb)))
  replace F := Lib.hid (((F.out.grew hq).set bbH 0 (.slice XH zH.length xH) (.inr (Nat.le_trans F.out.le hb))).set bbH 1 (.slice YH uH.length yH) (.inr (Nat.le_trans F.out.le hb)))
  replace P := Lib.hid (((P.out.grew hq).set bbH 0 (.slice XH zH.length xH) (.inr (Nat.le_trans P.out.le hb))).set bbH 1 (.slice YH uH.length yH) (.inr (Nat.le_trans P.out.le hb)))
  replace V := Lib.hid (((V.out.grew hq).set bbH 0 (.slice XH zH.length xH) (.inr (Nat.le_trans V.out.le hb))).set bbH 1 (.slice YH uH.length yH) (.inr (Nat.le_trans V.out.le hb)))
  replace W := Lib.hid (((W.out.grew hq).set bbH 0 (.slice XH zH.length xH) (.inr (Nat.le_trans W.out.le hb))).set bbH 1 (.slice YH uH.length yH) (.inr (Nat.le_trans W.out.le hb)))
  have hGs := Below.size G.out
  replace G := Lib.hid (grew_set (i := 1) (v := .slice YH uH.length yH) (grew_set (i := 0) (v := .slice XH zH.length xH) (grew_trans G.out hq) (Nat.le_trans hGs hb)) (Nat.le_trans hGs hb))
  have hsz : ((w15.setCell ⟨bbH, 0, none⟩ (.slice XH zH.length xH)).setCell ⟨bbH, 1, none⟩ (.slice YH uH.length yH)).heap.size = w15.heap.size := by simp [World.setCell]
  have T := Lib.hid (Loc.ro (RoAt.put (U := .slice XH zH.length xH) (V := .slice YH uH.length yH) (⟨b0, b1⟩ : RoAt w15 bbH _ _)) (by rw [hsz]; exact hbs))
  have H := Lib.hid (Loc.rose ((hr.set hisb 0 (.slice XH zH.length xH)).set (hisb.set bbH 0 (.slice XH zH.length xH)) 1 (.slice YH uH.length yH)) (by rw [hsz]; exact hhi))
  have N15 : Hid (w14.heap.size ≤ bbH ∧ w14.heap.size ≤ lo ∧ bbH < ((w15.setCell ⟨bbH, 0, none⟩ (.slice XH zH.length xH)).setCell ⟨bbH, 1, none⟩ (.slice YH uH.length yH)).heap.size ∧ hi ≤ ((w15.setCell ⟨bbH, 0, none⟩ (.slice XH zH.length xH)).setCell ⟨bbH, 1, none⟩ (.slice YH uH.length yH)).heap.size ∧ w14.heap.size ≤ ((w15.setCell ⟨bbH, 0, none⟩ (.slice XH zH.length xH)).setCell ⟨bbH, 1, none⟩ (.slice YH uH.length yH)).heap.size) := by have := Below.size hq; show _ ∧ _; rw [hsz]; omega
  generalize ((w15.setCell ⟨bbH, 0, none⟩ (.slice XH zH.length xH)).setCell ⟨bbH, 1, none⟩ (.slice YH uH.length yH)) = w15x at *
  have ZH := Lib.hid hz
  have UH := Lib.hid hu
  have LH : Hid (zH.length ≤ 1048576 ∧ uH.length ≤ 1048576) := by show _ ∧ _; exact ⟨by rw [len_of_map ZH.out]; exact LD.out.1, by rw [len_of_map UH.out]; exact LD.out.2⟩
  clear hr hz hu hisb b0 b1 b2 b3 hq hqs hhi hlo hb hbs hsz eb hGs
  refine (c_eqRose _ _ _ _ _ _ zH uH zF uF _ H.out.now F.out.now (ZH.out.trans ZF.out.symm) (UH.out.trans UF.out.symm) LH.out.1 LH.out.2).mono ?_
  rintro e w16 ⟨rfl, hg0⟩
  have hg : Grew w15x w16 := hg0
  replace A0b := Lib.hid (A0b.out.grew hg)
  replace A1b := Lib.hid (A1b.out.grew hg)
  replace F := Lib.hid (F.out.grew hg)
  replace P := Lib.hid (P.out.grew hg)
  replace V := Lib.hid (V.out.grew hg)
  replace W := Lib.hid (W.out.grew hg)
  replace H := Lib.hid (H.out.grew hg)
  replace T := Lib.hid (T.out.grew hg)
  replace G := Lib.hid (grew_trans G.out hg)
  have N16 : Hid (w15x.heap.size ≤ w16.heap.size) := by have := Below.size hg0; (try simp at this); show _ ≤ _; omega
  clear hg hg0
  obtain ⟨w_0, w_1⟩ := W.out.now
  have w_b := W.out.lt
  go_wp2_with fail
  refine (c_heldRose _ _ zV.length uV.length _  1 _ V.out.now LV.out.1 LV.out.2 (by omega) (by omega)).mono ?_
  rintro e w17 ⟨rfl, hg0⟩
  clear w_0 w_1 w_b
  have hg : Grew w16 w17 := hg0
  replace A0b := Lib.hid (A0b.out.grew hg)
  replace A1b := Lib.hid (A1b.out.grew hg)
  replace F := Lib.hid (F.out.grew hg)
  replace P := Lib.hid (P.out.grew hg)
  replace V := Lib.hid (V.out.grew hg)
  replace W := Lib.hid (W.out.grew hg)
  replace H := Lib.hid (H.out.grew hg)
  replace T := Lib.hid (T.out.grew hg)
  replace G := Lib.hid (grew_trans G.out hg)
  have N17 : Hid (w16.heap.size ≤ w17.heap.size) := by have := Below.size hg0; (try simp at this); show _ ≤ _; omega
  clear hg hg0
  go_wp2_with fail
  go_ret
  exact ⟨rfl, G.out⟩

set_option maxHeartbeats 4000000 in
theorem walk_MixRoses_bad0 (A0 : Option Addr) (n0 c0 : Nat) (xs0 : List Nat) (B0 : Option Addr) (m0 e0 : Nat) (ys0 : List Nat) (A1 : Option Addr) (n1 c1 : Nat) (xs1 : List Nat) (B1 : Option Addr) (m1 e1 : Nat) (ys1 : List Nat) (a2 : Nat) (w : World) (hx0 : Slc (Value.float .f32) w w.heap.size A0 n0 xs0) (hn0 : n0 ≤ maxLen) (fx0 : ∀ x ∈ xs0, fits x) (hy0 : Slc (Value.float .f32) w w.heap.size B0 m0 ys0) (hm0 : m0 ≤ maxLen) (fy0 : ∀ x ∈ ys0, fits x) (hx1 : Slc (Value.float .f32) w w.heap.size A1 n1 xs1) (hn1 : n1 ≤ maxLen) (fx1 : ∀ x ∈ xs1, fits x) (hy1 : Slc (Value.float .f32) w w.heap.size B1 m1 ys1) (hm1 : m1 ≤ maxLen) (fy1 : ∀ x ∈ ys1, fits x) (fa2 : fits a2)  (g0 : ¬ (((n0 + m0 : Nat) : Int) ≤ 1048576)) :
    Calls Try.prog 4 #[.agg #[.slice A0 n0 c0, .slice B0 m0 e0], .agg #[.slice A1 n1 c1, .slice B1 m1 e1], .float .f32 a2] w fun e w' => e = .returned (.bool true) ∧ Below w.heap.size w w' := by
  obtain rfl := hx0.1
  obtain rfl := hy0.1
  obtain rfl := hx1.1
  obtain rfl := hy1.1
  have SA0 := Lib.hid (fun w => c_szRose' A0 B0 _ c0 _ e0  1048576 w hn0 hm0 (by omega) (by omega))
  rw [sz_no g0] at SA0
  have G : Hid (Grew w w) := grew_refl w
  clear hx0 hy0
  clear hx1 hy1
  have W0 : Hid (Grew w ((w.alloc (.cells #[.slice A0 xs0.length c0, .slice B0 ys0.length e0] 32)).alloc (.cells #[.slice A1 xs1.length c1, .slice B1 ys1.length e1] 32))) := by show Grew _ _; (show Below _ _ _; (repeat (first | exact Below.refl _ _ | refine ext_below ?_ (by first | omega | (simp only [size_ext, heap_push, Array.size_push, World.heap_drewN]; omega) | (simp; omega)) _ _ | refine below_draws ?_ _ | refine Below.alloc ?_ (by first | omega | (simp; done) | (simp; omega)) _ | refine Below.setCell ?_ (by first | omega | (simp; done) | (simp; omega)) _ | refine below_then (by assumption) (by first | omega | (simp; done) | (simp; omega)) ?_)))
  clear g0
  go_enter Try.func4, Try.ntmps4
  go_wp2_with fail
  refine (SA0.out _).mono ?_
  rintro e w1 ⟨rfl, hg0⟩
  have hg : Grew w w1 := grew_trans W0.out hg0
  replace G := Lib.hid (grew_trans G.out hg)
  have A0b := Lib.hid ((Loc.ro (w := ((w.alloc (.cells #[.slice A0 xs0.length c0, .slice B0 ys0.length e0] 32)).alloc (.cells #[.slice A1 xs1.length c1, .slice B1 ys1.length e1] 32))) (b := w.heap.size) (X := .slice A0 xs0.length c0) (Y := .slice B0 ys0.length e0)  (by refine ⟨?_, ?_⟩ <;> simp [go_sem]) (by simp <;> omega)).grew hg0)
  have A1b := Lib.hid ((Loc.ro (w := ((w.alloc (.cells #[.slice A0 xs0.length c0, .slice B0 ys0.length e0] 32)).alloc (.cells #[.slice A1 xs1.length c1, .slice B1 ys1.length e1] 32))) (b := w.heap.size + 1) (X := .slice A1 xs1.length c1) (Y := .slice B1 ys1.length e1)  (by refine ⟨?_, ?_⟩ <;> simp [go_sem]) (by simp <;> omega)).grew hg0)
  have N1 : Hid (w.heap.size + 2 ≤ w1.heap.size) := by have := Below.size hg0; (try simp at this); show _ ≤ _; omega
  clear hg hg0
  go_wp2_with fail
  go_ret
  exact ⟨rfl, G.out⟩

set_option maxHeartbeats 4000000 in
theorem walk_MixRoses_bad1 (A0 : Option Addr) (n0 c0 : Nat) (xs0 : List Nat) (B0 : Option Addr) (m0 e0 : Nat) (ys0 : List Nat) (A1 : Option Addr) (n1 c1 : Nat) (xs1 : List Nat) (B1 : Option Addr) (m1 e1 : Nat) (ys1 : List Nat) (a2 : Nat) (w : World) (hx0 : Slc (Value.float .f32) w w.heap.size A0 n0 xs0) (hn0 : n0 ≤ maxLen) (fx0 : ∀ x ∈ xs0, fits x) (hy0 : Slc (Value.float .f32) w w.heap.size B0 m0 ys0) (hm0 : m0 ≤ maxLen) (fy0 : ∀ x ∈ ys0, fits x) (hx1 : Slc (Value.float .f32) w w.heap.size A1 n1 xs1) (hn1 : n1 ≤ maxLen) (fx1 : ∀ x ∈ xs1, fits x) (hy1 : Slc (Value.float .f32) w w.heap.size B1 m1 ys1) (hm1 : m1 ≤ maxLen) (fy1 : ∀ x ∈ ys1, fits x) (fa2 : fits a2) (g0 : ((n0 + m0 : Nat) : Int) ≤ 1048576) (g1 : ¬ (((n1 + m1 : Nat) : Int) ≤ (1048576 - (n0 + m0 : Nat)))) :
    Calls Try.prog 4 #[.agg #[.slice A0 n0 c0, .slice B0 m0 e0], .agg #[.slice A1 n1 c1, .slice B1 m1 e1], .float .f32 a2] w fun e w' => e = .returned (.bool true) ∧ Below w.heap.size w w' := by
  obtain rfl := hx0.1
  obtain rfl := hy0.1
  obtain rfl := hx1.1
  obtain rfl := hy1.1
  have SA0 := Lib.hid (fun w => c_szRose' A0 B0 _ c0 _ e0  1048576 w hn0 hm0 (by omega) (by omega))
  rw [sz_ok g0] at SA0
  generalize hleft0 : (((1048576 : Int) - ((xs0.length + ys0.length : Nat) : Int))) = left0 at *
  have dl0 : decide (left0 < 0) = false := by simp; omega
  have SA1 := Lib.hid (fun w => c_szRose' A1 B1 _ c1 _ e1  left0 w hn1 hm1 (by omega) (by omega))
  rw [sz_no g1] at SA1
  have G : Hid (Grew w w) := grew_refl w
  clear hx0 hy0
  clear hx1 hy1
  have W0 : Hid (Grew w ((w.alloc (.cells #[.slice A0 xs0.length c0, .slice B0 ys0.length e0] 32)).alloc (.cells #[.slice A1 xs1.length c1, .slice B1 ys1.length e1] 32))) := by show Grew _ _; (show Below _ _ _; (repeat (first | exact Below.refl _ _ | refine ext_below ?_ (by first | omega | (simp only [size_ext, heap_push, Array.size_push, World.heap_drewN]; omega) | (simp; omega)) _ _ | refine below_draws ?_ _ | refine Below.alloc ?_ (by first | omega | (simp; done) | (simp; omega)) _ | refine Below.setCell ?_ (by first | omega | (simp; done) | (simp; omega)) _ | refine below_then (by assumption) (by first | omega | (simp; done) | (simp; omega)) ?_)))
  clear g0 g1 hleft0
  go_enter Try.func4, Try.ntmps4
  go_wp2_with fail
  refine (SA0.out _).mono ?_
  rintro e w1 ⟨rfl, hg0⟩
  have hg : Grew w w1 := grew_trans W0.out hg0
  replace G := Lib.hid (grew_trans G.out hg)
  have A0b := Lib.hid ((Loc.ro (w := ((w.alloc (.cells #[.slice A0 xs0.length c0, .slice B0 ys0.length e0] 32)).alloc (.cells #[.slice A1 xs1.length c1, .slice B1 ys1.length e1] 32))) (b := w.heap.size) (X := .slice A0 xs0.length c0) (Y := .slice B0 ys0.length e0)  (by refine ⟨?_, ?_⟩ <;> simp [go_sem]) (by simp <;> omega)).grew hg0)
  have A1b := Lib.hid ((Loc.ro (w := ((w.alloc (.cells #[.slice A0 xs0.length c0, .slice B0 ys0.length e0] 32)).alloc (.cells #[.slice A1 xs1.length c1, .slice B1 ys1.length e1] 32))) (b := w.heap.size + 1) (X := .slice A1 xs1.length c1) (Y := .slice B1 ys1.length e1)  (by refine ⟨?_, ?_⟩ <;> simp [go_sem]) (by simp <;> omega)).grew hg0)
  have N1 : Hid (w.heap.size + 2 ≤ w1.heap.size) := by have := Below.size hg0; (try simp at this); show _ ≤ _; omega
  clear hg hg0
  obtain ⟨a1b_0, a1b_1⟩ := A1b.out.now
  have a1b_b := A1b.out.lt
  go_wp2_with fail
  refine (SA1.out _).mono ?_
  rintro e w2 ⟨rfl, hg0⟩
  clear a1b_0 a1b_1 a1b_b
  have hg : Grew w1 w2 := hg0
  replace A0b := Lib.hid (A0b.out.grew hg)
  replace A1b := Lib.hid (A1b.out.grew hg)
  replace G := Lib.hid (grew_trans G.out hg)
  have N2 : Hid (w1.heap.size ≤ w2.heap.size) := by have := Below.size hg0; (try simp at this); show _ ≤ _; omega
  clear hg hg0
  go_wp2_with fail
  go_ret
  exact ⟨rfl, G.out⟩

set_option maxHeartbeats 4000000 in
theorem walk_MixRoses (A0 : Option Addr) (n0 c0 : Nat) (xs0 : List Nat) (B0 : Option Addr) (m0 e0 : Nat) (ys0 : List Nat) (A1 : Option Addr) (n1 c1 : Nat) (xs1 : List Nat) (B1 : Option Addr) (m1 e1 : Nat) (ys1 : List Nat) (a2 : Nat) (w : World) (hx0 : Slc (Value.float .f32) w w.heap.size A0 n0 xs0) (hn0 : n0 ≤ maxLen) (fx0 : ∀ x ∈ xs0, fits x) (hy0 : Slc (Value.float .f32) w w.heap.size B0 m0 ys0) (hm0 : m0 ≤ maxLen) (fy0 : ∀ x ∈ ys0, fits x) (hx1 : Slc (Value.float .f32) w w.heap.size A1 n1 xs1) (hn1 : n1 ≤ maxLen) (fx1 : ∀ x ∈ xs1, fits x) (hy1 : Slc (Value.float .f32) w w.heap.size B1 m1 ys1) (hm1 : m1 ≤ maxLen) (fy1 : ∀ x ∈ ys1, fits x) (fa2 : fits a2)  :
    Calls Try.prog 4 #[.agg #[.slice A0 n0 c0, .slice B0 m0 e0], .agg #[.slice A1 n1 c1, .slice B1 m1 e1], .float .f32 a2] w fun e w' => e = .returned (.bool true) ∧ Below w.heap.size w w' := by
  by_cases g0 : ((n0 + m0 : Nat) : Int) ≤ 1048576
  case neg => exact walk_MixRoses_bad0 A0 n0 c0 xs0 B0 m0 e0 ys0 A1 n1 c1 xs1 B1 m1 e1 ys1 a2 w hx0 hn0 fx0 hy0 hm0 fy0 hx1 hn1 fx1 hy1 hm1 fy1 fa2  g0
  by_cases g1 : ((n1 + m1 : Nat) : Int) ≤ (1048576 - (n0 + m0 : Nat))
  case neg => exact walk_MixRoses_bad1 A0 n0 c0 xs0 B0 m0 e0 ys0 A1 n1 c1 xs1 B1 m1 e1 ys1 a2 w hx0 hn0 fx0 hy0 hm0 fy0 hx1 hn1 fx1 hy1 hm1 fy1 fa2 g0 g1
  exact walk_MixRoses_ok A0 n0 c0 xs0 B0 m0 e0 ys0 A1 n1 c1 xs1 B1 m1 e1 ys1 a2 w hx0 hn0 fx0 hy0 hm0 fy0 hx1 hn1 fx1 hy1 hm1 fy1 fa2 g0 g1


end Go.Proofs.Ytebhefbpkcpnjaa
