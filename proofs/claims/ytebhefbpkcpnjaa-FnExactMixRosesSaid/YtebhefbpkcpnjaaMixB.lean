/-
  CONTRACTS: mixes of roses that do not fit.
-/
import Derived.Test.YtebhefbpkcpnjaaRoseV
import Derived.Test.YtebhefbpkcpnjaaTail
import Derived.Test.YtebhefbpkcpnjaaLed
namespace Go.Proofs.Ytebhefbpkcpnjaa
open Go.RowKit Go.Flt
set_option linter.unusedVariables false
set_option maxRecDepth 100000
set_option linter.unusedSimpArgs false

def mixD (x y s : Ieee.Datum) : Ieee.Datum := fop .add .f32 x (fop .mul .f32 s (fop .sub .f32 y x))

theorem c_mixed (x y s : Nat) (w : World) : Calls Try.prog 54 #[.float .f32 x, .float .f32 y, .float .f32 s] w (RetF (mixD (cl .f32 x) (cl .f32 y) (cl .f32 s)) (Drawn w)) := by
  go_enter Try.func54, Try.ntmps54
  go_wp2_with (refine upon_fbin rfl _ _ _ _ ?_; intro z n hz hzw)
  go_ret
  exact ⟨_, rfl, by unfold mixD; simp only [*], by assumption, by (first | exact ⟨_, rfl⟩ | exact ⟨0, rfl⟩ | exact ⟨_, World.drewN_drewN _ _ _⟩ | (simp only [World.drewN_drewN]; exact ⟨_, rfl⟩))⟩

/-- The mixes of the first k numbers. -/
def mixL (xs ys : List Nat) (s : Nat) (k : Nat) : List Ieee.Datum := (List.range k).map fun j => mixD (cl .f32 (xs.getD j 0)) (cl .f32 (ys.getD j 0)) (cl .f32 s)

theorem mixL_succ (xs ys : List Nat) (s k : Nat) : mixL xs ys s (k + 1) = mixL xs ys s k ++ [mixD (cl .f32 (xs.getD k 0)) (cl .f32 (ys.getD k 0)) (cl .f32 s)] := by simp [mixL, List.range_succ]

def okMix (xs ys xs' ys' : List Nat) (s : Nat) : Bool := vRose xs ys && vRose xs' ys' && decide (xs.length = xs'.length) && fromTo (cl .f32 s) (cl .f32 0) (cl .f32 1065353216)

def isMix (xs ys xs' ys' : List Nat) (s : Nat) : Bool := okMix xs ys xs' ys' s && vRoseD (mixL xs xs' s xs.length) (mixL ys ys' s xs.length)

/-- A rose that grows: its two rows, from block lo on, and the block b in which they stand. -/
structure MixAt (w0 w : World) (lo b : Nat) (v1 v2 : Value) (zs us : List Nat) (D E : List Ieee.Datum) : Prop where
  r1 : FRow w lo w.heap.size v1 zs
  r2 : FRow w lo w.heap.size v2 us
  ap : ∀ k, v1.ownBlock = some k → v2.ownBlock ≠ some k
  n1 : v1.ownBlock ≠ some b
  n2 : v2.ownBlock ≠ some b
  c0 : w.cell? ⟨b, 0, none⟩ = some v1
  c1 : w.cell? ⟨b, 1, none⟩ = some v2
  f0 : w.frozen? ⟨b, 0, none⟩ = false
  f1 : w.frozen? ⟨b, 1, none⟩ = false
  d1 : zs.map (cl .f32) = D
  d2 : us.map (cl .f32) = E
  gr : Grew w0 w
  hb : w0.heap.size ≤ b
  hl : w0.heap.size ≤ lo
  ll : lo ≤ w.heap.size
  lt : b < w.heap.size

theorem cell_block {w w' : World} {b : Nat} (h : w'.heap[b]? = w.heap[b]?) (o : Nat) : w'.cell? ⟨b, o, none⟩ = w.cell? ⟨b, o, none⟩ ∧ w'.frozen? ⟨b, o, none⟩ = w.frozen? ⟨b, o, none⟩ := by
  constructor
  · simp only [World.cell?, h]
  · simp only [World.frozen?, h]

theorem cell_set_other (w : World) (b i j : Nat) (v : Value) (h : i ≠ j) : (w.setCell ⟨b, i, none⟩ v).cell? ⟨b, j, none⟩ = w.cell? ⟨b, j, none⟩ := by
  simp only [World.cell?, World.setCell, Array.getElem?_modify]
  cases hb : w.heap[b]? with
  | none => simp
  | some o => cases o <;> simp [h]

theorem cell_set_own (w : World) (b i : Nat) (v u : Value) (h : w.cell? ⟨b, i, none⟩ = some u) : (w.setCell ⟨b, i, none⟩ v).cell? ⟨b, i, none⟩ = some v := by
  simp only [World.cell?, World.setCell, Array.getElem?_modify] at *
  cases hb : w.heap[b]? with
  | none => rw [hb] at h; cases h
  | some o =>
    rw [hb] at h
    cases o with
    | cells c t f =>
      simp only [Option.map_some, if_true] at h ⊢
      have hi := (Array.getElem?_eq_some_iff.1 h).1
      simp [hi]
    | _ => simp_all

theorem frozen_set (w : World) (b i j b' : Nat) (v : Value) : (w.setCell ⟨b, i, none⟩ v).frozen? ⟨b', j, none⟩ = w.frozen? ⟨b', j, none⟩ := by
  simp only [World.frozen?, World.setCell, Array.getElem?_modify]
  by_cases h : b = b'
  · subst h
    cases hb : w.heap[b]? with
    | none => simp
    | some o => cases o <;> simp
  · simp [h]

theorem mix_push1 {w0 wr wq w2 : World} {lo b r : Nat} {v1 v2 v' : Value} {zs us : List Nat} {D E : List Ieee.Datum} {d : Ieee.Datum} (h : MixAt w0 wr lo b v1 v2 zs us D E) (hq : Grew wr wq)
    (hown : w2.ownsRow lo 23 1 v' (zs.length + 1) (zs.map (Value.float .f32) ++ [.float .f32 r])) (hgr : wq.grownBy w2 v1.ownBlock) (hat : v'.ownBlock = v1.ownBlock ∨ v'.ownBlock = some wq.heap.size) (hd : cl .f32 r = d) :
    MixAt w0 (w2.setCell ⟨b, 0, none⟩ v') lo b v' v2 (zs ++ [r]) us (D ++ [d]) E ∧ w2.cell? ⟨b, 0, none⟩ = some v1 ∧ w2.frozen? ⟨b, 0, none⟩ = false := by
  have hsz := Below.size hq
  have hlt := h.lt
  have hll := h.ll
  obtain ⟨p1, p2, p3, p4, p5⟩ := row_push2 (RowAt.mono (h.r1.grew (Nat.le_refl _) hq) (Nat.le_refl _) hsz) (RowAt.mono (h.r2.grew (Nat.le_refl _) hq) (Nat.le_refl _) hsz) h.ap (by omega) hown hgr hat
  have hbk : w2.heap[b]? = wr.heap[b]? := (hgr.block b (by omega) (fun e => h.n1 e.symm)).trans (hq.block b hlt)
  have c0 := (cell_block hbk 0).1.trans h.c0
  have c1 := (cell_block hbk 1).1.trans h.c1
  have f0 := (cell_block hbk 0).2.trans h.f0
  have f1 := (cell_block hbk 1).2.trans h.f1
  have hs : (w2.setCell ⟨b, 0, none⟩ v').heap.size = w2.heap.size := by simp [World.setCell]
  have hz4 := Below.size p4
  have hn' : v'.ownBlock ≠ some b := by
    rcases hat with e | e
    · rw [e]; exact h.n1
    · rw [e]; intro e2; injection e2 with e2; omega
  have t1 : FRow (w2.setCell ⟨b, 0, none⟩ v') lo (w2.setCell ⟨b, 0, none⟩ v').heap.size v' (zs ++ [r]) := by rw [hs]; exact p1.touch (touch_set w2 b 0 v') (fun k e e2 => hn' (e2.trans e.symm))
  have t2 : FRow (w2.setCell ⟨b, 0, none⟩ v') lo (w2.setCell ⟨b, 0, none⟩ v').heap.size v2 us := by rw [hs]; exact p2.touch (touch_set w2 b 0 v') (fun k e e2 => h.n2 (e2.trans e.symm))
  have g2 : Grew w0 w2 := grew_trans' (grew_trans h.gr hq) p4 h.hl
  exact ⟨{ r1 := t1, r2 := t2, ap := p3, n1 := hn', n2 := h.n2,
            c0 := cell_set_own _ _ _ _ _ c0, c1 := (cell_set_other _ _ _ _ _ (by omega)).trans c1, f0 := (frozen_set _ _ _ _ _ _).trans f0, f1 := (frozen_set _ _ _ _ _ _).trans f1,
            d1 := by rw [List.map_append, h.d1]; simp [hd], d2 := h.d2, gr := grew_set g2 h.hb, hb := h.hb, hl := h.hl, ll := by rw [hs]; omega, lt := by rw [hs]; omega }, c0, f0⟩

theorem mix_push2 {w0 wr wq w2 : World} {lo b r : Nat} {v1 v2 v' : Value} {zs us : List Nat} {D E : List Ieee.Datum} {d : Ieee.Datum} (h : MixAt w0 wr lo b v1 v2 zs us D E) (hq : Grew wr wq)
    (hown : w2.ownsRow lo 23 1 v' (us.length + 1) (us.map (Value.float .f32) ++ [.float .f32 r])) (hgr : wq.grownBy w2 v2.ownBlock) (hat : v'.ownBlock = v2.ownBlock ∨ v'.ownBlock = some wq.heap.size) (hd : cl .f32 r = d) :
    MixAt w0 (w2.setCell ⟨b, 1, none⟩ v') lo b v1 v' zs (us ++ [r]) D (E ++ [d]) ∧ w2.cell? ⟨b, 1, none⟩ = some v2 ∧ w2.frozen? ⟨b, 1, none⟩ = false := by
  have hsz := Below.size hq
  have hlt := h.lt
  have hll := h.ll
  obtain ⟨p1, p2, p3, p4, p5⟩ := row_push2 (RowAt.mono (h.r2.grew (Nat.le_refl _) hq) (Nat.le_refl _) hsz) (RowAt.mono (h.r1.grew (Nat.le_refl _) hq) (Nat.le_refl _) hsz) (fun k h1 h2 => h.ap k h2 h1) (by omega) hown hgr hat
  have hbk : w2.heap[b]? = wr.heap[b]? := (hgr.block b (by omega) (fun e => h.n2 e.symm)).trans (hq.block b hlt)
  have c0 := (cell_block hbk 0).1.trans h.c0
  have c1 := (cell_block hbk 1).1.trans h.c1
  have f0 := (cell_block hbk 0).2.trans h.f0
  have f1 := (cell_block hbk 1).2.trans h.f1
  have hs : (w2.setCell ⟨b, 1, none⟩ v').heap.size = w2.heap.size := by simp [World.setCell]
  have hz4 := Below.size p4
  have hn' : v'.ownBlock ≠ some b := by
    rcases hat with e | e
    · rw [e]; exact h.n2
    · rw [e]; intro e2; injection e2 with e2; omega
  have t1 : FRow (w2.setCell ⟨b, 1, none⟩ v') lo (w2.setCell ⟨b, 1, none⟩ v').heap.size v' (us ++ [r]) := by rw [hs]; exact p1.touch (touch_set w2 b 1 v') (fun k e e2 => hn' (e2.trans e.symm))
  have t2 : FRow (w2.setCell ⟨b, 1, none⟩ v') lo (w2.setCell ⟨b, 1, none⟩ v').heap.size v1 zs := by rw [hs]; exact p2.touch (touch_set w2 b 1 v') (fun k e e2 => h.n1 (e2.trans e.symm))
  have g2 : Grew w0 w2 := grew_trans' (grew_trans h.gr hq) p4 h.hl
  exact ⟨{ r1 := t2, r2 := t1, ap := (fun k h1 h2 => p3 k h2 h1), n1 := h.n1, n2 := hn',
            c1 := cell_set_own _ _ _ _ _ c1, c0 := (cell_set_other _ _ _ _ _ (by omega)).trans c0, f0 := (frozen_set _ _ _ _ _ _).trans f0, f1 := (frozen_set _ _ _ _ _ _).trans f1,
            d2 := by rw [List.map_append, h.d2]; simp [hd], d1 := h.d1, gr := grew_set g2 h.hb, hb := h.hb, hl := h.hl, ll := by rw [hs]; omega, lt := by rw [hs]; omega }, c1, f1⟩

/-- A rose's own block. -/
def BoxR (w : World) (b : Nat) (X Y : Value) : Prop := RoAt w b X Y ∧ w.frozen? ⟨b, 0, none⟩ = false ∧ w.frozen? ⟨b, 1, none⟩ = false

theorem BoxR.grew {w w' : World} {b : Nat} {X Y : Value} (h : BoxR w b X Y) (hb : b < w.heap.size) (hg : Grew w w') : BoxR w' b X Y :=
  ⟨h.1.grew hb hg, ((bcell hg).2 _ _ hb).trans h.2.1, ((bcell hg).2 _ _ hb).trans h.2.2⟩

theorem BoxR.drewN {w : World} {b : Nat} {X Y : Value} (h : BoxR w b X Y) (n : Nat) : BoxR (w.drewN n) b X Y := h

set_option maxHeartbeats 4000000 in
theorem c_mixBad1 (A C A' C' : Option Addr) (n cA m cC n' cA' m' cC' K : Nat) (xs ys xs' ys' : List Nat) (s : Nat) (w : World) (hx : Fl w K A n xs) (hy : Fl w K C m ys) (hx' : Fl w K A' n' xs') (hy' : Fl w K C' m' ys') (hK : K ≤ w.heap.size) (hn : n ≤ maxLen) (hm : m ≤ maxLen) (hn' : n' ≤ maxLen) (hm' : m' ≤ maxLen)  (k1 : vRose xs ys = false) :
    Calls Try.prog 19 #[.agg #[.slice A n cA, .slice C m cC], .agg #[.slice A' n' cA', .slice C' m' cC'], .float .f32 s] w (RetR (if isMix xs ys xs' ys' s then mixL xs xs' s xs.length else []) (if isMix xs ys xs' ys' s then mixL ys ys' s xs.length else []) (isMix xs ys xs' ys' s) w) := by
  obtain rfl := hx.1
  obtain rfl := hy.1
  obtain rfl := hx'.1
  obtain rfl := hy'.1
  have HX := Lib.hid (fun w' h => Slc.grew (g := Value.float .f32) (w' := w') hx hK h)
  have HY := Lib.hid (fun w' h => Slc.grew (g := Value.float .f32) (w' := w') hy hK h)
  have HX' := Lib.hid (fun w' h => Slc.grew (g := Value.float .f32) (w' := w') hx' hK h)
  have HY' := Lib.hid (fun w' h => Slc.grew (g := Value.float .f32) (w' := w') hy' hK h)
  have V1 := Lib.hid (fun w' (h : Grew w w') => c_implValidRose A C _ cA _ cC K xs ys w' (HX.out w' h) (HY.out w' h) (Nat.le_trans hK (Below.size h)) hn hm)
  have V2 := Lib.hid (fun w' (h : Grew w w') => c_implValidRose A' C' _ cA' _ cC' K xs' ys' w' (HX'.out w' h) (HY'.out w' h) (Nat.le_trans hK (Below.size h)) hn' hm')
  clear hx hy hx' hy' hn hm hn' hm'
  have hk : isMix xs ys xs' ys' s = false := by simp [isMix, okMix, k1]
  rw [hk]
  rw [k1] at V1
  go_enter Try.func19, Try.ntmps19
  go_wp2_with fail
  refine (V1.out _ (by (show Below _ _ _; (repeat (first | exact Below.refl _ _ | refine ext_below ?_ (by first | omega | (simp only [size_ext, heap_push, Array.size_push, World.heap_drewN]; omega) | (simp; omega)) _ _ | refine below_draws ?_ _ | refine Below.alloc ?_ (by first | omega | (simp; done) | (simp; omega)) _ | refine Below.setCell ?_ (by first | omega | (simp; done) | (simp; omega)) _ | refine below_then (by assumption) (by first | omega | (simp; done) | (simp; omega)) ?_))))).mono ?_
  rintro e w1 ⟨rfl, hg1⟩
  have G1 := Lib.hid (grew_trans (show Grew w _ by (show Below _ _ _; (repeat (first | exact Below.refl _ _ | refine ext_below ?_ (by first | omega | (simp only [size_ext, heap_push, Array.size_push, World.heap_drewN]; omega) | (simp; omega)) _ _ | refine below_draws ?_ _ | refine Below.alloc ?_ (by first | omega | (simp; done) | (simp; omega)) _ | refine Below.setCell ?_ (by first | omega | (simp; done) | (simp; omega)) _ | refine below_then (by assumption) (by first | omega | (simp; done) | (simp; omega)) ?_)))) hg1)
  have A1 : Hid (RoAt w1 w.heap.size (.slice A xs.length cA) (.slice C ys.length cC)) := by
    refine RoAt.grew ?_ ?_ hg1
    · refine ⟨?_, ?_⟩ <;> simp [go_sem]
    · simp; omega
  have B1 : Hid (RoAt w1 (w.heap.size + 1) (.slice A' xs'.length cA') (.slice C' ys'.length cC')) := by
    refine RoAt.grew ?_ ?_ hg1
    · refine ⟨?_, ?_⟩ <;> simp [go_sem]
    · simp
  have R1 : Hid (BoxR w1 (w.heap.size + 1 + 1) (.slice none 0 0) (.slice none 0 0)) := by
    refine BoxR.grew ?_ ?_ hg1
    · refine ⟨⟨?_, ?_⟩, ?_, ?_⟩ <;> simp [go_sem]
    · simp
  have z1 : w.heap.size + 1 + 1 < w1.heap.size := by have := Below.size hg1; simp at this; omega
  clear hg1
  obtain ⟨⟨b0, b1⟩, b2, b3⟩ := R1.out
  go_wp2_with (go_at_call 53; refine (c_isFromTo _ _ _ _).mono ?_; rintro e w' ⟨rfl, nq, rfl⟩)
  refine bodyPost_ret (v := .tuple #[ZRO, .bool false]) (by simp [results, Try.results19, go_sem, b0, b1, ZRO]) rfl ?_
  exact ⟨_, [], [], rfl, rose_nil _ _ _, rfl, rfl, (by repeat (first | (with_reducible exact G1.out) | (with_reducible exact grw_refl _) | (with_reducible refine grew_draw _ _ ?_) | (with_reducible refine grew_al ?_ _) | (with_reducible refine grew_set ?_ ?_; rotate_left; omega)))⟩


set_option maxHeartbeats 4000000 in
theorem c_mixBad2 (A C A' C' : Option Addr) (n cA m cC n' cA' m' cC' K : Nat) (xs ys xs' ys' : List Nat) (s : Nat) (w : World) (hx : Fl w K A n xs) (hy : Fl w K C m ys) (hx' : Fl w K A' n' xs') (hy' : Fl w K C' m' ys') (hK : K ≤ w.heap.size) (hn : n ≤ maxLen) (hm : m ≤ maxLen) (hn' : n' ≤ maxLen) (hm' : m' ≤ maxLen)  (k1 : vRose xs ys = true) (k2 : vRose xs' ys' = false) :
    Calls Try.prog 19 #[.agg #[.slice A n cA, .slice C m cC], .agg #[.slice A' n' cA', .slice C' m' cC'], .float .f32 s] w (RetR (if isMix xs ys xs' ys' s then mixL xs xs' s xs.length else []) (if isMix xs ys xs' ys' s then mixL ys ys' s xs.length else []) (isMix xs ys xs' ys' s) w) := by
  obtain rfl := hx.1
  obtain rfl := hy.1
  obtain rfl := hx'.1
  obtain rfl := hy'.1
  have HX := Lib.hid (fun w' h => Slc.grew (g := Value.float .f32) (w' := w') hx hK h)
  have HY := Lib.hid (fun w' h => Slc.grew (g := Value.float .f32) (w' := w') hy hK h)
  have HX' := Lib.hid (fun w' h => Slc.grew (g := Value.float .f32) (w' := w') hx' hK h)
  have HY' := Lib.hid (fun w' h => Slc.grew (g := Value.float .f32) (w' := w') hy' hK h)
  have V1 := Lib.hid (fun w' (h : Grew w w') => c_implValidRose A C _ cA _ cC K xs ys w' (HX.out w' h) (HY.out w' h) (Nat.le_trans hK (Below.size h)) hn hm)
  have V2 := Lib.hid (fun w' (h : Grew w w') => c_implValidRose A' C' _ cA' _ cC' K xs' ys' w' (HX'.out w' h) (HY'.out w' h) (Nat.le_trans hK (Below.size h)) hn' hm')
  clear hx hy hx' hy' hn hm hn' hm'
  rw [k1] at V1
  have hk : isMix xs ys xs' ys' s = false := by simp [isMix, okMix, k2]
  rw [hk]
  rw [k2] at V2
  go_enter Try.func19, Try.ntmps19
  go_wp2_with fail
  refine (V1.out _ (by (show Below _ _ _; (repeat (first | exact Below.refl _ _ | refine ext_below ?_ (by first | omega | (simp only [size_ext, heap_push, Array.size_push, World.heap_drewN]; omega) | (simp; omega)) _ _ | refine below_draws ?_ _ | refine Below.alloc ?_ (by first | omega | (simp; done) | (simp; omega)) _ | refine Below.setCell ?_ (by first | omega | (simp; done) | (simp; omega)) _ | refine below_then (by assumption) (by first | omega | (simp; done) | (simp; omega)) ?_))))).mono ?_
  rintro e w1 ⟨rfl, hg1⟩
  have G1 := Lib.hid (grew_trans (show Grew w _ by (show Below _ _ _; (repeat (first | exact Below.refl _ _ | refine ext_below ?_ (by first | omega | (simp only [size_ext, heap_push, Array.size_push, World.heap_drewN]; omega) | (simp; omega)) _ _ | refine below_draws ?_ _ | refine Below.alloc ?_ (by first | omega | (simp; done) | (simp; omega)) _ | refine Below.setCell ?_ (by first | omega | (simp; done) | (simp; omega)) _ | refine below_then (by assumption) (by first | omega | (simp; done) | (simp; omega)) ?_)))) hg1)
  have A1 : Hid (RoAt w1 w.heap.size (.slice A xs.length cA) (.slice C ys.length cC)) := by
    refine RoAt.grew ?_ ?_ hg1
    · refine ⟨?_, ?_⟩ <;> simp [go_sem]
    · simp; omega
  have B1 : Hid (RoAt w1 (w.heap.size + 1) (.slice A' xs'.length cA') (.slice C' ys'.length cC')) := by
    refine RoAt.grew ?_ ?_ hg1
    · refine ⟨?_, ?_⟩ <;> simp [go_sem]
    · simp
  have R1 : Hid (BoxR w1 (w.heap.size + 1 + 1) (.slice none 0 0) (.slice none 0 0)) := by
    refine BoxR.grew ?_ ?_ hg1
    · refine ⟨⟨?_, ?_⟩, ?_, ?_⟩ <;> simp [go_sem]
    · simp
  have z1 : w.heap.size + 1 + 1 < w1.heap.size := by have := Below.size hg1; simp at this; omega
  clear hg1
  obtain ⟨b0, b1⟩ := B1.out
  go_wp2_with fail
  refine (V2.out _ G1.out).mono ?_
  rintro e w2 ⟨rfl, hg2⟩
  clear b0 b1
  have G2 := Lib.hid (grew_trans G1.out hg2)
  have A2 := Lib.hid (A1.out.grew (by omega) hg2)
  have B2 := Lib.hid (B1.out.grew (by omega) hg2)
  have R2 := Lib.hid (R1.out.grew z1 hg2)
  have z2 : w.heap.size + 1 + 1 < w2.heap.size := by have := Below.size hg2; omega
  clear hg2 z1 A1 B1 R1 G1
  obtain ⟨p0, p1⟩ := A2.out
  obtain ⟨q0, q1⟩ := B2.out
  obtain ⟨⟨b0, b1⟩, b2, b3⟩ := R2.out
  go_wp2_with (go_at_call 53; refine (c_isFromTo _ _ _ _).mono ?_; rintro e w' ⟨rfl, nq, rfl⟩)
  refine bodyPost_ret (v := .tuple #[ZRO, .bool false]) (by simp [results, Try.results19, go_sem, b0, b1, ZRO]) rfl ?_
  exact ⟨_, [], [], rfl, rose_nil _ _ _, rfl, rfl, (by repeat (first | (with_reducible exact G2.out) | (with_reducible exact grw_refl _) | (with_reducible refine grew_draw _ _ ?_) | (with_reducible refine grew_al ?_ _) | (with_reducible refine grew_set ?_ ?_; rotate_left; omega)))⟩


set_option maxHeartbeats 4000000 in
theorem c_mixBad3 (A C A' C' : Option Addr) (n cA m cC n' cA' m' cC' K : Nat) (xs ys xs' ys' : List Nat) (s : Nat) (w : World) (hx : Fl w K A n xs) (hy : Fl w K C m ys) (hx' : Fl w K A' n' xs') (hy' : Fl w K C' m' ys') (hK : K ≤ w.heap.size) (hn : n ≤ maxLen) (hm : m ≤ maxLen) (hn' : n' ≤ maxLen) (hm' : m' ≤ maxLen)  (k1 : vRose xs ys = true) (k2 : vRose xs' ys' = true) (k3 : ((xs.length : Int) != (xs'.length : Int)) = true) :
    Calls Try.prog 19 #[.agg #[.slice A n cA, .slice C m cC], .agg #[.slice A' n' cA', .slice C' m' cC'], .float .f32 s] w (RetR (if isMix xs ys xs' ys' s then mixL xs xs' s xs.length else []) (if isMix xs ys xs' ys' s then mixL ys ys' s xs.length else []) (isMix xs ys xs' ys' s) w) := by
  obtain rfl := hx.1
  obtain rfl := hy.1
  obtain rfl := hx'.1
  obtain rfl := hy'.1
  have HX := Lib.hid (fun w' h => Slc.grew (g := Value.float .f32) (w' := w') hx hK h)
  have HY := Lib.hid (fun w' h => Slc.grew (g := Value.float .f32) (w' := w') hy hK h)
  have HX' := Lib.hid (fun w' h => Slc.grew (g := Value.float .f32) (w' := w') hx' hK h)
  have HY' := Lib.hid (fun w' h => Slc.grew (g := Value.float .f32) (w' := w') hy' hK h)
  have V1 := Lib.hid (fun w' (h : Grew w w') => c_implValidRose A C _ cA _ cC K xs ys w' (HX.out w' h) (HY.out w' h) (Nat.le_trans hK (Below.size h)) hn hm)
  have V2 := Lib.hid (fun w' (h : Grew w w') => c_implValidRose A' C' _ cA' _ cC' K xs' ys' w' (HX'.out w' h) (HY'.out w' h) (Nat.le_trans hK (Below.size h)) hn' hm')
  clear hx hy hx' hy' hn hm hn' hm'
  rw [k1] at V1
  rw [k2] at V2
  have hk : isMix xs ys xs' ys' s = false := by
    have : decide (xs.length = xs'.length) = false := decide_eq_false (by simp at k3; omega)
    simp [isMix, okMix, this]
  rw [hk]
  go_enter Try.func19, Try.ntmps19
  go_wp2_with fail
  refine (V1.out _ (by (show Below _ _ _; (repeat (first | exact Below.refl _ _ | refine ext_below ?_ (by first | omega | (simp only [size_ext, heap_push, Array.size_push, World.heap_drewN]; omega) | (simp; omega)) _ _ | refine below_draws ?_ _ | refine Below.alloc ?_ (by first | omega | (simp; done) | (simp; omega)) _ | refine Below.setCell ?_ (by first | omega | (simp; done) | (simp; omega)) _ | refine below_then (by assumption) (by first | omega | (simp; done) | (simp; omega)) ?_))))).mono ?_
  rintro e w1 ⟨rfl, hg1⟩
  have G1 := Lib.hid (grew_trans (show Grew w _ by (show Below _ _ _; (repeat (first | exact Below.refl _ _ | refine ext_below ?_ (by first | omega | (simp only [size_ext, heap_push, Array.size_push, World.heap_drewN]; omega) | (simp; omega)) _ _ | refine below_draws ?_ _ | refine Below.alloc ?_ (by first | omega | (simp; done) | (simp; omega)) _ | refine Below.setCell ?_ (by first | omega | (simp; done) | (simp; omega)) _ | refine below_then (by assumption) (by first | omega | (simp; done) | (simp; omega)) ?_)))) hg1)
  have A1 : Hid (RoAt w1 w.heap.size (.slice A xs.length cA) (.slice C ys.length cC)) := by
    refine RoAt.grew ?_ ?_ hg1
    · refine ⟨?_, ?_⟩ <;> simp [go_sem]
    · simp; omega
  have B1 : Hid (RoAt w1 (w.heap.size + 1) (.slice A' xs'.length cA') (.slice C' ys'.length cC')) := by
    refine RoAt.grew ?_ ?_ hg1
    · refine ⟨?_, ?_⟩ <;> simp [go_sem]
    · simp
  have R1 : Hid (BoxR w1 (w.heap.size + 1 + 1) (.slice none 0 0) (.slice none 0 0)) := by
    refine BoxR.grew ?_ ?_ hg1
    · refine ⟨⟨?_, ?_⟩, ?_, ?_⟩ <;> simp [go_sem]
    · simp
  have z1 : w.heap.size + 1 + 1 < w1.heap.size := by have := Below.size hg1; simp at this; omega
  clear hg1
  obtain ⟨b0, b1⟩ := B1.out
  go_wp2_with fail
  refine (V2.out _ G1.out).mono ?_
  rintro e w2 ⟨rfl, hg2⟩
  clear b0 b1
  have G2 := Lib.hid (grew_trans G1.out hg2)
  have A2 := Lib.hid (A1.out.grew (by omega) hg2)
  have B2 := Lib.hid (B1.out.grew (by omega) hg2)
  have R2 := Lib.hid (R1.out.grew z1 hg2)
  have z2 : w.heap.size + 1 + 1 < w2.heap.size := by have := Below.size hg2; omega
  clear hg2 z1 A1 B1 R1 G1
  obtain ⟨p0, p1⟩ := A2.out
  obtain ⟨q0, q1⟩ := B2.out
  obtain ⟨⟨b0, b1⟩, b2, b3⟩ := R2.out
  go_wp2_with (go_at_call 53; refine (c_isFromTo _ _ _ _).mono ?_; rintro e w' ⟨rfl, nq, rfl⟩)
  refine bodyPost_ret (v := .tuple #[ZRO, .bool false]) (by simp [results, Try.results19, go_sem, b0, b1, ZRO]) rfl ?_
  exact ⟨_, [], [], rfl, rose_nil _ _ _, rfl, rfl, (by repeat (first | (with_reducible exact G2.out) | (with_reducible exact grw_refl _) | (with_reducible refine grew_draw _ _ ?_) | (with_reducible refine grew_al ?_ _) | (with_reducible refine grew_set ?_ ?_; rotate_left; omega)))⟩


set_option maxHeartbeats 4000000 in
theorem c_mixBad4 (A C A' C' : Option Addr) (n cA m cC n' cA' m' cC' K : Nat) (xs ys xs' ys' : List Nat) (s : Nat) (w : World) (hx : Fl w K A n xs) (hy : Fl w K C m ys) (hx' : Fl w K A' n' xs') (hy' : Fl w K C' m' ys') (hK : K ≤ w.heap.size) (hn : n ≤ maxLen) (hm : m ≤ maxLen) (hn' : n' ≤ maxLen) (hm' : m' ≤ maxLen)  (k1 : vRose xs ys = true) (k2 : vRose xs' ys' = true) (k3 : ((xs.length : Int) != (xs'.length : Int)) = false) (k4 : fromTo (cl .f32 s) (cl .f32 0) (cl .f32 1065353216) = false) :
    Calls Try.prog 19 #[.agg #[.slice A n cA, .slice C m cC], .agg #[.slice A' n' cA', .slice C' m' cC'], .float .f32 s] w (RetR (if isMix xs ys xs' ys' s then mixL xs xs' s xs.length else []) (if isMix xs ys xs' ys' s then mixL ys ys' s xs.length else []) (isMix xs ys xs' ys' s) w) := by
  obtain rfl := hx.1
  obtain rfl := hy.1
  obtain rfl := hx'.1
  obtain rfl := hy'.1
  have HX := Lib.hid (fun w' h => Slc.grew (g := Value.float .f32) (w' := w') hx hK h)
  have HY := Lib.hid (fun w' h => Slc.grew (g := Value.float .f32) (w' := w') hy hK h)
  have HX' := Lib.hid (fun w' h => Slc.grew (g := Value.float .f32) (w' := w') hx' hK h)
  have HY' := Lib.hid (fun w' h => Slc.grew (g := Value.float .f32) (w' := w') hy' hK h)
  have V1 := Lib.hid (fun w' (h : Grew w w') => c_implValidRose A C _ cA _ cC K xs ys w' (HX.out w' h) (HY.out w' h) (Nat.le_trans hK (Below.size h)) hn hm)
  have V2 := Lib.hid (fun w' (h : Grew w w') => c_implValidRose A' C' _ cA' _ cC' K xs' ys' w' (HX'.out w' h) (HY'.out w' h) (Nat.le_trans hK (Below.size h)) hn' hm')
  clear hx hy hx' hy' hn hm hn' hm'
  rw [k1] at V1
  rw [k2] at V2
  have hk : isMix xs ys xs' ys' s = false := by simp [isMix, okMix, k4]
  rw [hk]
  go_enter Try.func19, Try.ntmps19
  go_wp2_with fail
  refine (V1.out _ (by (show Below _ _ _; (repeat (first | exact Below.refl _ _ | refine ext_below ?_ (by first | omega | (simp only [size_ext, heap_push, Array.size_push, World.heap_drewN]; omega) | (simp; omega)) _ _ | refine below_draws ?_ _ | refine Below.alloc ?_ (by first | omega | (simp; done) | (simp; omega)) _ | refine Below.setCell ?_ (by first | omega | (simp; done) | (simp; omega)) _ | refine below_then (by assumption) (by first | omega | (simp; done) | (simp; omega)) ?_))))).mono ?_
  rintro e w1 ⟨rfl, hg1⟩
  have G1 := Lib.hid (grew_trans (show Grew w _ by (show Below _ _ _; (repeat (first | exact Below.refl _ _ | refine ext_below ?_ (by first | omega | (simp only [size_ext, heap_push, Array.size_push, World.heap_drewN]; omega) | (simp; omega)) _ _ | refine below_draws ?_ _ | refine Below.alloc ?_ (by first | omega | (simp; done) | (simp; omega)) _ | refine Below.setCell ?_ (by first | omega | (simp; done) | (simp; omega)) _ | refine below_then (by assumption) (by first | omega | (simp; done) | (simp; omega)) ?_)))) hg1)
  have A1 : Hid (RoAt w1 w.heap.size (.slice A xs.length cA) (.slice C ys.length cC)) := by
    refine RoAt.grew ?_ ?_ hg1
    · refine ⟨?_, ?_⟩ <;> simp [go_sem]
    · simp; omega
  have B1 : Hid (RoAt w1 (w.heap.size + 1) (.slice A' xs'.length cA') (.slice C' ys'.length cC')) := by
    refine RoAt.grew ?_ ?_ hg1
    · refine ⟨?_, ?_⟩ <;> simp [go_sem]
    · simp
  have R1 : Hid (BoxR w1 (w.heap.size + 1 + 1) (.slice none 0 0) (.slice none 0 0)) := by
    refine BoxR.grew ?_ ?_ hg1
    · refine ⟨⟨?_, ?_⟩, ?_, ?_⟩ <;> simp [go_sem]
    · simp
  have z1 : w.heap.size + 1 + 1 < w1.heap.size := by have := Below.size hg1; simp at this; omega
  clear hg1
  obtain ⟨b0, b1⟩ := B1.out
  go_wp2_with fail
  refine (V2.out _ G1.out).mono ?_
  rintro e w2 ⟨rfl, hg2⟩
  clear b0 b1
  have G2 := Lib.hid (grew_trans G1.out hg2)
  have A2 := Lib.hid (A1.out.grew (by omega) hg2)
  have B2 := Lib.hid (B1.out.grew (by omega) hg2)
  have R2 := Lib.hid (R1.out.grew z1 hg2)
  have z2 : w.heap.size + 1 + 1 < w2.heap.size := by have := Below.size hg2; omega
  clear hg2 z1 A1 B1 R1 G1
  obtain ⟨p0, p1⟩ := A2.out
  obtain ⟨q0, q1⟩ := B2.out
  obtain ⟨⟨b0, b1⟩, b2, b3⟩ := R2.out
  go_wp2_with (go_at_call 53; refine (c_isFromTo _ _ _ _).mono ?_; rintro e w' ⟨rfl, nq, rfl⟩)
  refine bodyPost_ret (v := .tuple #[ZRO, .bool false]) (by simp [results, Try.results19, go_sem, b0, b1, ZRO]) rfl ?_
  exact ⟨_, [], [], rfl, rose_nil _ _ _, rfl, rfl, (by repeat (first | (with_reducible exact G2.out) | (with_reducible exact grw_refl _) | (with_reducible refine grew_draw _ _ ?_) | (with_reducible refine grew_al ?_ _) | (with_reducible refine grew_set ?_ ?_; rotate_left; omega)))⟩


end Go.Proofs.Ytebhefbpkcpnjaa
