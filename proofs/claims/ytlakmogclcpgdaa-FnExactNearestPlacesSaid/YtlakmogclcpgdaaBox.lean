/-
  ROWS IN A BOX: a rose that grows; told values (a tuple of a rose and a bool, a fresh box); what a store leaves.
-/
import Derived.Test.YtlakmogclcpgdaaRoseV
import Derived.Test.YtlakmogclcpgdaaTail
import Derived.Test.YtlakmogclcpgdaaLed
namespace Go.Proofs.Ytlakmogclcpgdaa
open Go.RowKit Go.Flt
set_option linter.unusedVariables false
set_option maxRecDepth 100000
set_option linter.unusedSimpArgs false

/-- A rose that grows: its two rows, from block lo on, and the block b in which they stand. -/
structure MixAt (w0 w : World) (lo b : Nat) (v1 v2 : Value) (zs us : List Nat) (D E : List Ieee.Datum) : Prop where
  r1 : FRow w lo w.heap.size v1 zs
  r2 : FRow w lo w.heap.size v2 us
  ap : ∀ k, v1.ownBlock = some k → v2.ownBlock ≠ some k
  n1 : v1.ownBlock ≠ some b
  n2 : v2.ownBlock ≠ some b
  c0 : w.cell? ⟨b, 0, none⟩ = some v1
  c1 : w.cell? ⟨b, 1, none⟩ = some v2
  f0 : w.frozen? ⟨b, 0, none⟩ = false
  f1 : w.frozen? ⟨b, 1, none⟩ = false
  d1 : zs.map (cl .f32) = D
  d2 : us.map (cl .f32) = E
  gr : Grew w0 w
  hb : w0.heap.size ≤ b
  hl : w0.heap.size ≤ lo
  ll : lo ≤ w.heap.size
  lt : b < w.heap.size

theorem cell_block {w w' : World} {b : Nat} (h : w'.heap[b]? = w.heap[b]?) (o : Nat) : w'.cell? ⟨b, o, none⟩ = w.cell? ⟨b, o, none⟩ ∧ w'.frozen? ⟨b, o, none⟩ = w.frozen? ⟨b, o, none⟩ := by
  constructor
  · simp only [World.cell?, h]
  · simp only [World.frozen?, h]

theorem cell_set_other (w : World) (b i j : Nat) (v : Value) (h : i ≠ j) : (w.setCell ⟨b, i, none⟩ v).cell? ⟨b, j, none⟩ = w.cell? ⟨b, j, none⟩ := by
  simp only [World.cell?, World.setCell, Array.getElem?_modify]
  cases hb : w.heap[b]? with
  | none => simp
  | some o => cases o <;> simp [h]

theorem cell_set_own (w : World) (b i : Nat) (v u : Value) (h : w.cell? ⟨b, i, none⟩ = some u) : (w.setCell ⟨b, i, none⟩ v).cell? ⟨b, i, none⟩ = some v := by
  simp only [World.cell?, World.setCell, Array.getElem?_modify] at *
  cases hb : w.heap[b]? with
  | none => rw [hb] at h; cases h
  | some o =>
    rw [hb] at h
    cases o with
    | cells c t f =>
      simp only [Option.map_some, if_true] at h ⊢
      have hi := (Array.getElem?_eq_some_iff.1 h).1
      simp [hi]
    | _ => simp_all

theorem frozen_set (w : World) (b i j b' : Nat) (v : Value) : (w.setCell ⟨b, i, none⟩ v).frozen? ⟨b', j, none⟩ = w.frozen? ⟨b', j, none⟩ := by
  simp only [World.frozen?, World.setCell, Array.getElem?_modify]
  by_cases h : b = b'
  · subst h
    cases hb : w.heap[b]? with
    | none => simp
    | some o => cases o <;> simp
  · simp [h]

theorem mix_push1 {w0 wr wq w2 : World} {lo b r : Nat} {v1 v2 v' : Value} {zs us : List Nat} {D E : List Ieee.Datum} {d : Ieee.Datum} (h : MixAt w0 wr lo b v1 v2 zs us D E) (hq : Grew wr wq)
    (hown : w2.ownsRow lo 22 1 v' (zs.length + 1) (zs.map (Value.float .f32) ++ [.float .f32 r])) (hgr : wq.grownBy w2 v1.ownBlock) (hat : v'.ownBlock = v1.ownBlock ∨ v'.ownBlock = some wq.heap.size) (hd : cl .f32 r = d) :
    MixAt w0 (w2.setCell ⟨b, 0, none⟩ v') lo b v' v2 (zs ++ [r]) us (D ++ [d]) E ∧ w2.cell? ⟨b, 0, none⟩ = some v1 ∧ w2.frozen? ⟨b, 0, none⟩ = false := by
  have hsz := Below.size hq
  have hlt := h.lt
  have hll := h.ll
  obtain ⟨p1, p2, p3, p4, p5⟩ := row_push2 (RowAt.mono (h.r1.grew (Nat.le_refl _) hq) (Nat.le_refl _) hsz) (RowAt.mono (h.r2.grew (Nat.le_refl _) hq) (Nat.le_refl _) hsz) h.ap (by omega) hown hgr hat
  have hbk : w2.heap[b]? = wr.heap[b]? := (hgr.block b (by omega) (fun e => h.n1 e.symm)).trans (hq.block b hlt)
  have c0 := (cell_block hbk 0).1.trans h.c0
  have c1 := (cell_block hbk 1).1.trans h.c1
  have f0 := (cell_block hbk 0).2.trans h.f0
  have f1 := (cell_block hbk 1).2.trans h.f1
  have hs : (w2.setCell ⟨b, 0, none⟩ v').heap.size = w2.heap.size := by simp [World.setCell]
  have hz4 := Below.size p4
  have hn' : v'.ownBlock ≠ some b := by
    rcases hat with e | e
    · rw [e]; exact h.n1
    · rw [e]; intro e2; injection e2 with e2; omega
  have t1 : FRow (w2.setCell ⟨b, 0, none⟩ v') lo (w2.setCell ⟨b, 0, none⟩ v').heap.size v' (zs ++ [r]) := by rw [hs]; exact p1.touch (touch_set w2 b 0 v') (fun k e e2 => hn' (e2.trans e.symm))
  have t2 : FRow (w2.setCell ⟨b, 0, none⟩ v') lo (w2.setCell ⟨b, 0, none⟩ v').heap.size v2 us := by rw [hs]; exact p2.touch (touch_set w2 b 0 v') (fun k e e2 => h.n2 (e2.trans e.symm))
  have g2 : Grew w0 w2 := grew_trans' (grew_trans h.gr hq) p4 h.hl
  exact ⟨{ r1 := t1, r2 := t2, ap := p3, n1 := hn', n2 := h.n2,
            c0 := cell_set_own _ _ _ _ _ c0, c1 := (cell_set_other _ _ _ _ _ (by omega)).trans c1, f0 := (frozen_set _ _ _ _ _ _).trans f0, f1 := (frozen_set _ _ _ _ _ _).trans f1,
            d1 := by rw [List.map_append, h.d1]; simp [hd], d2 := h.d2, gr := grew_set g2 h.hb, hb := h.hb, hl := h.hl, ll := by rw [hs]; omega, lt := by rw [hs]; omega }, c0, f0⟩

theorem mix_push2 {w0 wr wq w2 : World} {lo b r : Nat} {v1 v2 v' : Value} {zs us : List Nat} {D E : List Ieee.Datum} {d : Ieee.Datum} (h : MixAt w0 wr lo b v1 v2 zs us D E) (hq : Grew wr wq)
    (hown : w2.ownsRow lo 22 1 v' (us.length + 1) (us.map (Value.float .f32) ++ [.float .f32 r])) (hgr : wq.grownBy w2 v2.ownBlock) (hat : v'.ownBlock = v2.ownBlock ∨ v'.ownBlock = some wq.heap.size) (hd : cl .f32 r = d) :
    MixAt w0 (w2.setCell ⟨b, 1, none⟩ v') lo b v1 v' zs (us ++ [r]) D (E ++ [d]) ∧ w2.cell? ⟨b, 1, none⟩ = some v2 ∧ w2.frozen? ⟨b, 1, none⟩ = false := by
  have hsz := Below.size hq
  have hlt := h.lt
  have hll := h.ll
  obtain ⟨p1, p2, p3, p4, p5⟩ := row_push2 (RowAt.mono (h.r2.grew (Nat.le_refl _) hq) (Nat.le_refl _) hsz) (RowAt.mono (h.r1.grew (Nat.le_refl _) hq) (Nat.le_refl _) hsz) (fun k h1 h2 => h.ap k h2 h1) (by omega) hown hgr hat
  have hbk : w2.heap[b]? = wr.heap[b]? := (hgr.block b (by omega) (fun e => h.n2 e.symm)).trans (hq.block b hlt)
  have c0 := (cell_block hbk 0).1.trans h.c0
  have c1 := (cell_block hbk 1).1.trans h.c1
  have f0 := (cell_block hbk 0).2.trans h.f0
  have f1 := (cell_block hbk 1).2.trans h.f1
  have hs : (w2.setCell ⟨b, 1, none⟩ v').heap.size = w2.heap.size := by simp [World.setCell]
  have hz4 := Below.size p4
  have hn' : v'.ownBlock ≠ some b := by
    rcases hat with e | e
    · rw [e]; exact h.n2
    · rw [e]; intro e2; injection e2 with e2; omega
  have t1 : FRow (w2.setCell ⟨b, 1, none⟩ v') lo (w2.setCell ⟨b, 1, none⟩ v').heap.size v' (us ++ [r]) := by rw [hs]; exact p1.touch (touch_set w2 b 1 v') (fun k e e2 => hn' (e2.trans e.symm))
  have t2 : FRow (w2.setCell ⟨b, 1, none⟩ v') lo (w2.setCell ⟨b, 1, none⟩ v').heap.size v1 zs := by rw [hs]; exact p2.touch (touch_set w2 b 1 v') (fun k e e2 => h.n1 (e2.trans e.symm))
  have g2 : Grew w0 w2 := grew_trans' (grew_trans h.gr hq) p4 h.hl
  exact ⟨{ r1 := t2, r2 := t1, ap := (fun k h1 h2 => p3 k h2 h1), n1 := h.n1, n2 := hn',
            c1 := cell_set_own _ _ _ _ _ c1, c0 := (cell_set_other _ _ _ _ _ (by omega)).trans c0, f0 := (frozen_set _ _ _ _ _ _).trans f0, f1 := (frozen_set _ _ _ _ _ _).trans f1,
            d2 := by rw [List.map_append, h.d2]; simp [hd], d1 := h.d1, gr := grew_set g2 h.hb, hb := h.hb, hl := h.hl, ll := by rw [hs]; omega, lt := by rw [hs]; omega }, c1, f1⟩

/-- A rose's own block. -/
def BoxR (w : World) (b : Nat) (X Y : Value) : Prop := RoAt w b X Y ∧ w.frozen? ⟨b, 0, none⟩ = false ∧ w.frozen? ⟨b, 1, none⟩ = false

theorem BoxR.grew {w w' : World} {b : Nat} {X Y : Value} (h : BoxR w b X Y) (hb : b < w.heap.size) (hg : Grew w w') : BoxR w' b X Y :=
  ⟨h.1.grew hb hg, ((bcell hg).2 _ _ hb).trans h.2.1, ((bcell hg).2 _ _ hb).trans h.2.2⟩

theorem BoxR.drewN {w : World} {b : Nat} {X Y : Value} (h : BoxR w b X Y) (n : Nat) : BoxR (w.drewN n) b X Y := h

/-- A tuple of a rose of a call's own, made behind block B, and a bool. -/
def TupBy (B : Nat) (D E : List Ieee.Datum) (b : Bool) (v : Value) (w' : World) : Prop := ∃ r zs us lo, v = .tuple #[r, .bool b] ∧ B ≤ lo ∧ RoseAt w' lo w'.heap.size r zs us ∧ zs.map (cl .f32) = D ∧ us.map (cl .f32) = E

theorem TupBy.get {F : List (Tmp × (Value → World → World → Prop))} {w0 w' : World} {k : Tmp} {u : Value} {B : Nat} {D E : List Ieee.Datum} {b : Bool} (h : Lasts F w0 k u w') (hu : u ≠ undef) (e : tabF F k = some (W2 (TupBy B D E b))) :
    ∃ r zs us lo hi, u = .tuple #[r, .bool b] ∧ B ≤ lo ∧ hi ≤ w'.heap.size ∧ RoseAt w' lo hi r zs us ∧ zs.map (cl .f32) = D ∧ us.map (cl .f32) = E := by
  obtain ⟨_, w3, _, h1, h2, h3⟩ := h.get hu
  rw [ofOp_some, e] at h3
  obtain ⟨r, zs, us, lo, e1, e2, e3, e4, e5⟩ := h3
  exact ⟨r, zs, us, lo, _, e1, e2, Below.size h2, e3.grew (Nat.le_refl _) h2, e4, e5⟩

theorem TupBy.ne {B : Nat} {D E : List Ieee.Datum} {b : Bool} {v : Value} {w' : World} (h : TupBy B D E b v w') : v ≠ undef := by
  obtain ⟨r, zs, us, lo, rfl, _⟩ := h
  simp [undef]

theorem RoAt.set {w : World} {b b' : Nat} {X Y : Value} (h : RoAt w b X Y) (hb : b' ≠ b) (o : Nat) (u : Value) : RoAt (w.setCell ⟨b', o, none⟩ u) b X Y := by
  have he : (w.setCell ⟨b', o, none⟩ u).heap[b]? = w.heap[b]? := by simp only [World.setCell, Array.getElem?_modify]; rw [if_neg hb]
  exact ⟨(cell_block he 0).1.trans h.1, (cell_block he 1).1.trans h.2⟩

theorem RoAt.put {w : World} {b : Nat} {X Y : Value} (h : RoAt w b X Y) (U V : Value) : RoAt ((w.setCell ⟨b, 0, none⟩ U).setCell ⟨b, 1, none⟩ V) b U V :=
  ⟨(cell_set_other _ _ _ _ _ (by omega)).trans (cell_set_own _ _ _ _ _ h.1), cell_set_own _ _ _ _ _ ((cell_set_other _ _ _ _ _ (by omega)).trans h.2)⟩

theorem Loc.set {lo hi : Nat} {F : World → Prop} {w : World} (h : Loc lo hi F w) (b : Nat) (o : Nat) (u : Value) (hd : b < lo ∨ hi ≤ b) : Loc lo hi F (w.setCell ⟨b, o, none⟩ u) :=
  h.keep (by simp [World.setCell]) fun k h1 h2 => by
    simp only [World.setCell, Array.getElem?_modify]
    rw [if_neg (by omega)]

theorem MixAt.drewN {w0 w : World} {lo b : Nat} {v1 v2 : Value} {zs us : List Nat} {D E : List Ieee.Datum} (h : MixAt w0 w lo b v1 v2 zs us D E) (n : Nat) : MixAt w0 (w.drewN n) lo b v1 v2 zs us D E :=
  { r1 := h.r1.drewN n, r2 := h.r2.drewN n, ap := h.ap, n1 := h.n1, n2 := h.n2, c0 := h.c0, c1 := h.c1, f0 := h.f0, f1 := h.f1, d1 := h.d1, d2 := h.d2, gr := grew_draw _ n h.gr, hb := h.hb, hl := h.hl, ll := h.ll, lt := h.lt }

/-- A value is stored into the first row. -/
theorem mix_set1 {w0 w : World} {lo b : Nat} {v1 v2 : Value} {zs us : List Nat} {D E : List Ieee.Datum} (h : MixAt w0 w lo b v1 v2 zs us D E) (hn : zs ≠ []) :
    ∃ b1 cap, v1 = .slice (some ⟨b1, 0, none⟩) zs.length cap ∧ b1 < w.heap.size ∧ (∀ i x, zs[i]? = some x → w.cell? ⟨b1, i, none⟩ = some (.float .f32 x)) ∧ (∀ i, w.frozen? ⟨b1, i, none⟩ = false) ∧
      ∀ n i x, i < zs.length → MixAt w0 ((w.drewN n).setCell ⟨b1, i, none⟩ (.float .f32 x)) lo b v1 v2 (zs.set i x) us (D.set i (cl .f32 x)) E := by
  obtain ⟨b1, cap, rfl, hb0, hb1, hc, hf, _⟩ := h.r1.row hn
  refine ⟨b1, cap, rfl, hb1, hc, hf, fun n i x hi => ?_⟩
  have h' := h.drewN n
  obtain ⟨b1', cap', e, _, _, _, _, hs⟩ := h'.r1.row hn
  simp only [Value.slice.injEq, Option.some.injEq, Addr.mk.injEq, and_true] at e
  obtain ⟨rfl, _, rfl⟩ := e
  obtain ⟨q1, q2⟩ := hs i x hi
  have hne : b1 ≠ b := fun e => h.n1 (by rw [e]; rfl)
  have hbk : ((w.drewN n).setCell ⟨b1, i, none⟩ (.float .f32 x)).heap[b]? = (w.drewN n).heap[b]? := q2.block b (fun e => hne (Option.some.inj e).symm)
  have hsz : ((w.drewN n).setCell ⟨b1, i, none⟩ (.float .f32 x)).heap.size = (w.drewN n).heap.size := by simp [World.setCell]
  exact { r1 := by rw [hsz]; exact q1, r2 := by rw [hsz]; exact h'.r2.touch q2 (fun k e e2 => h'.ap k (by simpa [Value.ownBlock] using e) e2), ap := fun k e => h'.ap k (by simpa [Value.ownBlock] using e), n1 := by simpa [Value.ownBlock] using h'.n1, n2 := h'.n2,
          c0 := (cell_block hbk 0).1.trans h'.c0, c1 := (cell_block hbk 1).1.trans h'.c1, f0 := (cell_block hbk 0).2.trans h'.f0, f1 := (cell_block hbk 1).2.trans h'.f1, d1 := by rw [← h'.d1, List.map_set], d2 := h'.d2, gr := grew_set h'.gr (Nat.le_trans h'.hl hb0), hb := h'.hb, hl := h'.hl, ll := by rw [hsz]; exact h'.ll, lt := by rw [hsz]; exact h'.lt }

theorem meas_less {a k : Nat} (h : k < a) (e : wrap64 ((k : Int) + 1) = (k : Int) + 1) : a - (intOf (Value.int .i64 (wrap64 ((k : Int) + 1)))).toNat < a - (intOf (Value.int .i64 (k : Int))).toNat := by
  rw [e]; simp only [intOf]; omega

theorem BoxR.set {w : World} {b b' : Nat} {X Y : Value} (h : BoxR w b X Y) (hb : b' ≠ b) (o : Nat) (u : Value) : BoxR (w.setCell ⟨b', o, none⟩ u) b X Y :=
  ⟨h.1.set hb o u, (frozen_set _ _ _ _ _ _).trans h.2.1, (frozen_set _ _ _ _ _ _).trans h.2.2⟩

end Go.Proofs.Ytlakmogclcpgdaa
