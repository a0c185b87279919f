/-
  CONTRACTS: a place that is added, by the program.
-/
import Derived.Deep.RegionLaw
import Derived.Test.YtlakmogclcpgdaaAdd
namespace Go.Proofs.Ytlakmogclcpgdaa
open Go.RowKit Go.Flt
set_option linter.unusedVariables false
set_option maxRecDepth 100000
set_option linter.unusedSimpArgs false

/-- append onto a row of a call's own, as one step of a region that draws. -/
theorem step_append_own {P : Program} {ops : Array Oper} {o : Oper} {a : Act} {w : World} {K : Act → World → Prop} {Q : Exit → Act → World → Prop} {E : Prop} (hgd : o.guard = none) (s x : Operand) (t : TypeId)
    (ho : o.op = .call { callee := .builtin .append, args := #[s, x], argTypes := #[t, t] })
    (base : Nat) (e : TypeId) (i : TypeInfo) (z : Value) (size bytes : Nat) (ht : P.underlying t = some (.slice e)) (hi : P.info? e = some i) (hz : i.zero = some z)
    (hsize : i.size = size) (hby : i.bytes = bytes) (hzs : z.cells.size = size) (hsz : 0 < size)
    (v : Value) (n : Nat) (xs : List Value) (hs : a.eval s = v) (hown : w.ownsRow base e size v n xs)
    (ad : Addr) (m c : Nat) (news : List Value) (hx : a.eval x = .slice (some ad) m c) (hl : news.length = m * size) (hnews : ∀ j u, news[j]? = some u → w.cell? (ad.add j) = some u) (h1 : ∀ u ∈ news, u.oneCell' = true)
    (h63 : n + m ≤ maxLen) (hbytes : (n + m) * bytes ≤ 140737488355328) (hbase : base ≤ w.heap.size)
    (h : ∀ v' w', w'.ownsRow base e size v' (n + m) (xs ++ news) → w.grownBy w' v.ownBlock → (v'.ownBlock = v.ownBlock ∨ v'.ownBlock = some w.heap.size) → K (a.put o.dst v') w') :
    if Region.wanted o (yielded ops a.tmps) = true then Oper.wp P o a w K Q else E := by
  have hw : Region.wanted o (yielded ops a.tmps) = true := by simp [Region.wanted, hgd]
  rw [if_pos hw]
  obtain ⟨v', w', hr, h2, h3, h4, h5⟩ := run_append_own_at (P := P) w base t o.type e i z size bytes ht hi hz hsize hby hzs hsz v n xs hown ad m c news hl hnews h1 h63 hbytes hbase
  unfold Oper.wp execOp
  simp only [ho, resolve, invoke, builtin, Sem.run_bind, Sem.run_pure, Result.andThen_ok, List.map_toArray, List.map_cons, List.map_nil, hs, hx, hr]
  exact h v' w' h2 h3 h5

/-- Two rows, and a box that is as it was. -/
structure Two (w0 wb w : World) (lo b : Nat) (v1 v2 : Value) (zs us : List Nat) : Prop where
  r1 : FRow w lo w.heap.size v1 zs
  r2 : FRow w lo w.heap.size v2 us
  ap : ∀ k, v1.ownBlock = some k → v2.ownBlock ≠ some k
  n1 : v1.ownBlock ≠ some b
  n2 : v2.ownBlock ≠ some b
  bx : w.heap[b]? = wb.heap[b]?
  gr : Grew w0 w
  hb : w0.heap.size ≤ b
  hl : w0.heap.size ≤ lo
  ll : lo ≤ w.heap.size
  lt : b < w.heap.size

theorem MixAt.two {w0 w : World} {lo b : Nat} {v1 v2 : Value} {zs us : List Nat} {D E : List Ieee.Datum} (h : MixAt w0 w lo b v1 v2 zs us D E) : Two w0 w w lo b v1 v2 zs us :=
  ⟨h.r1, h.r2, h.ap, h.n1, h.n2, rfl, h.gr, h.hb, h.hl, h.ll, h.lt⟩

theorem Two.grew {w0 wb w w' : World} {lo b : Nat} {v1 v2 : Value} {zs us : List Nat} (h : Two w0 wb w lo b v1 v2 zs us) (hg : Grew w w') : Two w0 wb w' lo b v1 v2 zs us :=
  ⟨RowAt.mono (h.r1.grew (Nat.le_refl _) hg) (Nat.le_refl _) (Below.size hg), RowAt.mono (h.r2.grew (Nat.le_refl _) hg) (Nat.le_refl _) (Below.size hg), h.ap, h.n1, h.n2, (hg.block b h.lt).trans h.bx, grew_trans h.gr hg, h.hb, h.hl, Nat.le_trans h.ll (Below.size hg), Nat.lt_of_lt_of_le h.lt (Below.size hg)⟩

theorem two_push1 {w0 wb w w2 : World} {lo b r : Nat} {v1 v2 v' : Value} {zs us : List Nat} (h : Two w0 wb w lo b v1 v2 zs us)
    (hown : w2.ownsRow lo 22 1 v' (zs.length + 1) (zs.map (Value.float .f32) ++ [.float .f32 r])) (hgr : w.grownBy w2 v1.ownBlock) (hat : v'.ownBlock = v1.ownBlock ∨ v'.ownBlock = some w.heap.size) : Two w0 wb w2 lo b v' v2 (zs ++ [r]) us := by
  have hlt := h.lt
  have hll := h.ll
  obtain ⟨p1, p2, p3, p4, p5⟩ := row_push2 h.r1 h.r2 h.ap hll hown hgr hat
  have hz4 := Below.size p4
  have hn' : v'.ownBlock ≠ some b := by
    rcases hat with e | e
    · rw [e]; exact h.n1
    · rw [e]; intro e2; injection e2 with e2; omega
  exact ⟨p1, p2, p3, hn', h.n2, (hgr.block b hlt (fun e => h.n1 e.symm)).trans h.bx, grew_trans' h.gr p4 h.hl, h.hb, h.hl, Nat.le_trans hll hz4, Nat.lt_of_lt_of_le hlt hz4⟩

theorem Two.swap {w0 wb w : World} {lo b : Nat} {v1 v2 : Value} {zs us : List Nat} (h : Two w0 wb w lo b v1 v2 zs us) : Two w0 wb w lo b v2 v1 us zs :=
  ⟨h.r2, h.r1, fun k h1 h2 => h.ap k h2 h1, h.n2, h.n1, h.bx, h.gr, h.hb, h.hl, h.ll, h.lt⟩

theorem two_done {w0 wb w : World} {lo b : Nat} {v1 v2 X Y : Value} {zs us : List Nat} (h : Two w0 wb w lo b v1 v2 zs us) (c0 : wb.cell? ⟨b, 0, none⟩ = some X) (c1 : wb.cell? ⟨b, 1, none⟩ = some Y) (f0 : wb.frozen? ⟨b, 0, none⟩ = false) (f1 : wb.frozen? ⟨b, 1, none⟩ = false) :
    MixAt w0 ((w.setCell ⟨b, 0, none⟩ v1).setCell ⟨b, 1, none⟩ v2) lo b v1 v2 zs us (zs.map (cl .f32)) (us.map (cl .f32)) := by
  have hsz : ((w.setCell ⟨b, 0, none⟩ v1).setCell ⟨b, 1, none⟩ v2).heap.size = w.heap.size := by simp [World.setCell]
  have o1 := h.n1
  have o2 := h.n2
  have h0 := (cell_block h.bx 0).1.trans c0
  have h1 := (cell_block h.bx 1).1.trans c1
  have g0 := (cell_block h.bx 0).2.trans f0
  have g1 := (cell_block h.bx 1).2.trans f1
  have hp := RoAt.put (⟨h0, h1⟩ : RoAt w b _ _) v1 v2
  exact { r1 := by rw [hsz]; exact (h.r1.touch (touch_set w b 0 v1) (fun k e e2 => o1 (e2.trans e.symm))).touch (touch_set _ b 1 v2) (fun k e e2 => o1 (e2.trans e.symm))
          r2 := by rw [hsz]; exact (h.r2.touch (touch_set w b 0 v1) (fun k e e2 => o2 (e2.trans e.symm))).touch (touch_set _ b 1 v2) (fun k e e2 => o2 (e2.trans e.symm))
          ap := h.ap, n1 := o1, n2 := o2, c0 := hp.1, c1 := hp.2, f0 := (frozen_set _ _ _ _ _ _).trans ((frozen_set _ _ _ _ _ _).trans g0), f1 := (frozen_set _ _ _ _ _ _).trans ((frozen_set _ _ _ _ _ _).trans g1)
          d1 := rfl, d2 := rfl, gr := grew_set (grew_set h.gr h.hb) h.hb, hb := h.hb, hl := h.hl, ll := by rw [hsz]; exact h.ll, lt := by rw [hsz]; exact h.lt }

set_option maxHeartbeats 8000000 in
theorem c_implAdd (lo hi : Nat) (v : Value) (xs ys : List Nat) (r d s : Nat) (x y : Nat) (w : World) (h : FarmAt w lo hi v xs ys r d s) (hK : hi ≤ w.heap.size) (hn : xs.length ≤ 1048576) (hm : ys.length ≤ 1048576) (fx : fits x) (fy : fits y) :
    Calls Try.prog 20 #[v, .float .f32 x, .float .f32 y] w
      (RetFm (yesL (isAdd xs ys r d s x y) (xs.map (cl .f32) ++ [cl .f32 x])) (yesL (isAdd xs ys r d s x y) (ys.map (cl .f32) ++ [cl .f32 y])) (yesN (isAdd xs ys r d s x y) r) (yesN (isAdd xs ys r d s x y) d) (yesN (isAdd xs ys r d s x y) s) (isAdd xs ys r d s x y) w) := by
  have V1 := Lib.hid (fun w' (hg : Grew w w') => c_implValidFarm' lo hi v xs ys r d s w' (h.grew hK hg) (Nat.le_trans hK (Below.size hg)))
  have V2 := Lib.hid (fun w' (hg : Grew w w') => c_copyFarm lo hi v xs ys r d s w' (h.grew hK hg) (Nat.le_trans hK (Below.size hg)))
  obtain ⟨A, cA, C, cC, rfl, hx, hy⟩ := h.parts
  clear h hx hy
  cases k1 : vFarm xs ys r d s
  · have e : isAdd xs ys r d s x y = false := by simp [isAdd, k1]
    rw [e]
    rw [k1] at V1
    clear hK hn hm k1 V2 e fx fy
    go_enter Try.func20, Try.ntmps20
    go_wp2_with fail
    refine (V1.out _ (by (show Below _ _ _; (repeat (first | exact Below.refl _ _ | refine ext_below ?_ (by first | omega | (simp only [size_ext, heap_push, Array.size_push, World.heap_drewN]; omega) | (simp; omega)) _ _ | refine below_draws ?_ _ | refine Below.alloc ?_ (by first | omega | (simp; done) | (simp; omega)) _ | refine Below.setCell ?_ (by first | omega | (simp; done) | (simp; omega)) _ | refine below_then (by assumption) (by first | omega | (simp; done) | (simp; omega)) ?_))))).mono ?_
    rintro e w1 ⟨rfl, hg1⟩
    have G1 := Lib.hid (grew_trans (show Grew w _ by (show Below _ _ _; (repeat (first | exact Below.refl _ _ | refine ext_below ?_ (by first | omega | (simp only [size_ext, heap_push, Array.size_push, World.heap_drewN]; omega) | (simp; omega)) _ _ | refine below_draws ?_ _ | refine Below.alloc ?_ (by first | omega | (simp; done) | (simp; omega)) _ | refine Below.setCell ?_ (by first | omega | (simp; done) | (simp; omega)) _ | refine below_then (by assumption) (by first | omega | (simp; done) | (simp; omega)) ?_)))) hg1)
    have A1 : Hid (FmAt w1 w.heap.size (.slice A xs.length cA) (.slice C ys.length cC) r d s) := Lib.hid (FmAt.grew (by unfold FmAt; simp [go_sem]) (by simp <;> omega) hg1)
    have R1 : Hid (BoxF w1 (w.heap.size + 1)) := Lib.hid (BoxF.grew ⟨by unfold FmAt; simp [go_sem], fun o => by simp [go_sem]⟩ (by simp) hg1)
    have z1 : w.heap.size + 1 < w1.heap.size := by have := Below.size hg1; simp at this; omega
    have z0 : w.heap.size < w1.heap.size := by omega
    clear hg1 V1
    obtain ⟨p0, p1, p2, p3, p4⟩ := A1.out
    clear p0 p1 p2 p3 p4
    obtain ⟨⟨b0, b1, b2, b3, b4⟩, bf⟩ := R1.out
    go_wp2_with fail
    have hst := st5_at R1.out.1 (.slice none 0 0) (.slice none 0 0) 0 0 0
    have hW := st5_wrote w1 (w.heap.size + 1) (.slice none 0 0) (.slice none 0 0) 0 0 0
    have hG5 : Grew w (st5 w1 (w.heap.size + 1) (.slice none 0 0) (.slice none 0 0) 0 0 0) := Wrote.below G1.out hW (by have := Below.size G1.out; omega) (by omega)
    show bodyPost _ _ _ _ _ (st5 w1 (w.heap.size + 1) (.slice none 0 0) (.slice none 0 0) 0 0 0)
    generalize st5 w1 (w.heap.size + 1) (.slice none 0 0) (.slice none 0 0) 0 0 0 = w5 at *
    obtain ⟨e0, e1, e2, e3, e4⟩ := hst
    refine bodyPost_ret (v := .tuple #[ZFM, .bool false]) (by simp [results, Try.results20, go_sem, e0, e1, e2, e3, e4, ZFM]) rfl ?_
    exact ⟨_, [], [], rfl, farm_nil _ _ _, rfl, rfl, hG5⟩
  · have hk : isAdd xs ys r d s x y = vFarmD (xs.map (cl .f32) ++ [cl .f32 x]) (ys.map (cl .f32) ++ [cl .f32 y]) r d s := by unfold isAdd; rw [k1]; rfl
    rw [hk]
    obtain ⟨hkx, hky, h12, h13⟩ := vFarm_len k1
    rw [k1] at V1
    have V2 := Lib.hid (fun w' (hg : Grew w w') => V2.out w' hg hkx hky hn hm)
    have NN := Lib.hid (And.intro hkx (And.intro hky (And.intro h12 h13)))
    have FX := Lib.hid (And.intro fx fy)
    generalize hB : vFarmD (xs.map (cl .f32) ++ [cl .f32 x]) (ys.map (cl .f32) ++ [cl .f32 y]) r d s = BB
    generalize hD : yesL BB (xs.map (cl .f32) ++ [cl .f32 x]) = DD
    generalize hE : yesL BB (ys.map (cl .f32) ++ [cl .f32 y]) = EE
    generalize h1 : yesN BB r = RR
    generalize h2 : yesN BB d = RD
    generalize h3 : yesN BB s = RS
    have HB := Lib.hid hB
    have HD := Lib.hid hD
    have HE := Lib.hid hE
    have H1 := Lib.hid h1
    have H2 := Lib.hid h2
    have H3 := Lib.hid h3
    obtain ⟨i, hi, hz0, hz1, hz2⟩ := info_parts info_float32
    have HI := Lib.hid hi
    have HI0 := Lib.hid hz0
    have HI1 := Lib.hid hz1
    have HI2 := Lib.hid hz2
    clear hB hD hE h1 h2 h3 hk hK hn hm k1 hkx hky h12 h13 fx fy hi hz0 hz1 hz2
    go_enter Try.func20, Try.ntmps20
    go_wp2_with fail
    refine (V1.out _ (by (show Below _ _ _; (repeat (first | exact Below.refl _ _ | refine ext_below ?_ (by first | omega | (simp only [size_ext, heap_push, Array.size_push, World.heap_drewN]; omega) | (simp; omega)) _ _ | refine below_draws ?_ _ | refine Below.alloc ?_ (by first | omega | (simp; done) | (simp; omega)) _ | refine Below.setCell ?_ (by first | omega | (simp; done) | (simp; omega)) _ | refine below_then (by assumption) (by first | omega | (simp; done) | (simp; omega)) ?_))))).mono ?_
    rintro e w1 ⟨rfl, hg1⟩
    have G1 := Lib.hid (grew_trans (show Grew w _ by (show Below _ _ _; (repeat (first | exact Below.refl _ _ | refine ext_below ?_ (by first | omega | (simp only [size_ext, heap_push, Array.size_push, World.heap_drewN]; omega) | (simp; omega)) _ _ | refine below_draws ?_ _ | refine Below.alloc ?_ (by first | omega | (simp; done) | (simp; omega)) _ | refine Below.setCell ?_ (by first | omega | (simp; done) | (simp; omega)) _ | refine below_then (by assumption) (by first | omega | (simp; done) | (simp; omega)) ?_)))) hg1)
    have A1 : Hid (FmAt w1 w.heap.size (.slice A xs.length cA) (.slice C ys.length cC) r d s) := Lib.hid (FmAt.grew (by unfold FmAt; simp [go_sem]) (by simp <;> omega) hg1)
    have R1 : Hid (BoxF w1 (w.heap.size + 1)) := Lib.hid (BoxF.grew ⟨by unfold FmAt; simp [go_sem], fun o => by simp [go_sem]⟩ (by simp) hg1)
    have z1 : w.heap.size + 1 < w1.heap.size := by have := Below.size hg1; simp at this; omega
    have z0 : w.heap.size < w1.heap.size := by omega
    clear hg1 V1
    obtain ⟨p0, p1, p2, p3, p4⟩ := A1.out
    go_wp2_with fail
    refine (V2.out _ G1.out).mono ?_
    rintro e w3 ⟨v, rfl, hf, hg3⟩
    obtain ⟨X, Y, rfl, hx, hy, hp⟩ := hf
    obtain ⟨a1, n1, m1, rfl⟩ := hx.sl
    obtain ⟨a2, n2, m2, rfl⟩ := hy.sl
    have hsz3 : w1.heap.size + 1 + 1 ≤ w3.heap.size := by
      obtain ⟨bq, _, _, hq1, hq2, _⟩ := RowAt.row hx (fun e => by have := NN.out.1; rw [e] at this; simp at this)
      omega
    have M0 := Lib.hid (mix_boxedF (w0 := w1) (lo := w1.heap.size + 1 + 1) r d s hx hy hp (by omega) hsz3 hg3)
    clear hx hy hp hg3 V2 hsz3 p0 p1 p2 p3 p4
    go_upto_region 4 with fail
    generalize w3.alloc (.cells #[.slice a1 n1 m1, .slice a2 n2 m2, .float .f32 r, .float .f32 d, .float .f32 s] 25) = w4 at *
    generalize w3.heap.size = bx at *
    have M1 := Lib.hid M0.out.1.two
    go_cut [] from 9 (fun wc => ∃ v1 v2, MixAt w1 wc (w1.heap.size + 1 + 1) bx v1 v2 (xs ++ [x]) (ys ++ [y]) (xs.map (cl .f32) ++ [cl .f32 x]) (ys.map (cl .f32) ++ [cl .f32 y]) ∧ FmBox wc bx r d s)
    case first =>
      have r0 := M0.out.1.c0
      have r1 := M0.out.1.c1
      have f0 := M0.out.1.f0
      have f1 := M0.out.1.f1
      have zb : bx < w4.heap.size := M0.out.1.lt
      go_wp2_with fail
      go_region_law (first | (refine step_append_own (by rfl) (.tmp 16) (.tmp 18) 23 (by rfl) (w1.heap.size + 1 + 1) 22 i (.float .f32 0) 1 4 Try.underlying23 HI.out HI0.out HI1.out HI2.out rfl (by decide) (.slice a1 n1 m1) xs.length _ (by rfl) (M1.out.grew (by (show Below _ _ _; (repeat (first | exact Below.refl _ _ | refine ext_below ?_ (by first | omega | (simp only [size_ext, heap_push, Array.size_push, World.heap_drewN]; omega) | (simp; omega)) _ _ | refine below_draws ?_ _ | refine Below.alloc ?_ (by first | omega | (simp; done) | (simp; omega)) _ | refine Below.setCell ?_ (by first | omega | (simp; done) | (simp; omega)) _ | refine below_then (by assumption) (by first | omega | (simp; done) | (simp; omega)) ?_))))).r1.1 ⟨_, 0, none⟩ 1 _ [.float .f32 x] (by rfl) rfl (one_news (by simp [go_sem])) (by simp [Value.oneCell']) (by have := NN.out; unfold maxLen; omega) (by have := NN.out; omega) (M1.out.grew (by (show Below _ _ _; (repeat (first | exact Below.refl _ _ | refine ext_below ?_ (by first | omega | (simp only [size_ext, heap_push, Array.size_push, World.heap_drewN]; omega) | (simp; omega)) _ _ | refine below_draws ?_ _ | refine Below.alloc ?_ (by first | omega | (simp; done) | (simp; omega)) _ | refine Below.setCell ?_ (by first | omega | (simp; done) | (simp; omega)) _ | refine below_then (by assumption) (by first | omega | (simp; done) | (simp; omega)) ?_))))).ll ?_; rintro v5 w5 hown hgr hat; have hT := Lib.hid (two_push1 (M1.out.grew (by (show Below _ _ _; (repeat (first | exact Below.refl _ _ | refine ext_below ?_ (by first | omega | (simp only [size_ext, heap_push, Array.size_push, World.heap_drewN]; omega) | (simp; omega)) _ _ | refine below_draws ?_ _ | refine Below.alloc ?_ (by first | omega | (simp; done) | (simp; omega)) _ | refine Below.setCell ?_ (by first | omega | (simp; done) | (simp; omega)) _ | refine below_then (by assumption) (by first | omega | (simp; done) | (simp; omega)) ?_))))) hown hgr hat); have far := Lib.hid (fun q (h1 : w4.heap.size ≤ q) h2 => hgr.block q h2 (fun e => absurd (M1.out.r1.2 q e.symm) (by omega))); clear hown hgr hat; obtain ⟨A9, n9, c9, rfl⟩ := hT.out.r1.sl; have t0 := (cell_block hT.out.bx 0).1.trans M0.out.1.c0; have t1 := (cell_block hT.out.bx 1).1.trans M0.out.1.c1; have zt := hT.out.lt) | (refine step_append_own (by rfl) (.tmp 21) (.tmp 23) 23 (by rfl) (w1.heap.size + 1 + 1) 22 i (.float .f32 0) 1 4 Try.underlying23 HI.out HI0.out HI1.out HI2.out rfl (by decide) (.slice a2 n2 m2) ys.length _ (by rfl) (hT.out.grew (by (show Below _ _ _; (repeat (first | exact Below.refl _ _ | refine ext_below ?_ (by first | omega | (simp only [size_ext, heap_push, Array.size_push, World.heap_drewN]; omega) | (simp; omega)) _ _ | refine below_draws ?_ _ | refine Below.alloc ?_ (by first | omega | (simp; done) | (simp; omega)) _ | refine Below.setCell ?_ (by first | omega | (simp; done) | (simp; omega)) _ | refine below_then (by assumption) (by first | omega | (simp; done) | (simp; omega)) ?_))))).r2.1 ⟨_, 0, none⟩ 1 _ [.float .f32 y] (by rfl) rfl (one_news (by first | (simp [go_sem]; done) | (refine ((cell_block (far.out _ (by omega) (by simp <;> omega)) 0).1).trans ?_; simp [go_sem]))) (by simp [Value.oneCell']) (by have := NN.out; unfold maxLen; omega) (by have := NN.out; omega) (hT.out.grew (by (show Below _ _ _; (repeat (first | exact Below.refl _ _ | refine ext_below ?_ (by first | omega | (simp only [size_ext, heap_push, Array.size_push, World.heap_drewN]; omega) | (simp; omega)) _ _ | refine below_draws ?_ _ | refine Below.alloc ?_ (by first | omega | (simp; done) | (simp; omega)) _ | refine Below.setCell ?_ (by first | omega | (simp; done) | (simp; omega)) _ | refine below_then (by assumption) (by first | omega | (simp; done) | (simp; omega)) ?_))))).ll ?_; rintro v6 w6 hown hgr hat; have hU := Lib.hid (two_push1 (hT.out.grew (by (show Below _ _ _; (repeat (first | exact Below.refl _ _ | refine ext_below ?_ (by first | omega | (simp only [size_ext, heap_push, Array.size_push, World.heap_drewN]; omega) | (simp; omega)) _ _ | refine below_draws ?_ _ | refine Below.alloc ?_ (by first | omega | (simp; done) | (simp; omega)) _ | refine Below.setCell ?_ (by first | omega | (simp; done) | (simp; omega)) _ | refine below_then (by assumption) (by first | omega | (simp; done) | (simp; omega)) ?_))))).swap hown hgr hat).swap; clear hown hgr hat; obtain ⟨A8, n8, c8, rfl⟩ := hU.out.r2.sl; have y0 := (cell_block hU.out.bx 0).1.trans M0.out.1.c0; have y1 := (cell_block hU.out.bx 1).1.trans M0.out.1.c1; have g0 := (cell_block hU.out.bx 0).2.trans M0.out.1.f0; have g1 := (cell_block hU.out.bx 1).2.trans M0.out.1.f1; have zu := hU.out.lt; clear t0 t1 zt))
      all_goals
        have hM := two_done hU.out M0.out.1.c0 M0.out.1.c1 M0.out.1.f0 M0.out.1.f1
        rw [List.map_append, List.map_append] at hM
        have hF := ((M0.out.2.keep hU.out.bx).set 0 (by omega) (.slice A9 n9 c9)).set 1 (by omega) (.slice A8 n8 c8)
        have hZ := Lib.hid (And.intro hM hF)
        clear hM hF y0 y1 g0 g1 zu r0 r1 f0 f1 zb
        go_wp2_with fail
        go_meet
        case rel => exact ⟨_, _, hZ.out⟩
    case rest =>
      obtain ⟨v1, v2, M2⟩ := hcut
      have M2 := Lib.hid M2
      clear M0 M1 A1
      obtain ⟨A9, n9, c9, rfl⟩ := M2.out.1.r1.sl
      obtain ⟨A8, n8, c8, rfl⟩ := M2.out.1.r2.sl
      generalize wc = wr at *
      have r0 := M2.out.1.c0
      have r1 := M2.out.1.c1
      obtain ⟨q2, q3, q4⟩ := M2.out.2
      go_wp2_with fail
      have hRo : FarmAt wr (w1.heap.size + 1 + 1) wr.heap.size (.agg #[.slice A9 n9 c9, .slice A8 n8 c8, .float .f32 r, .float .f32 d, .float .f32 s]) (xs ++ [x]) (ys ++ [y]) r d s := ⟨_, _, rfl, M2.out.1.r1, M2.out.1.r2, M2.out.1.ap⟩
      have hGR : Grew w1 wr := M2.out.1.gr
      have hlo : w.heap.size + 1 + 1 ≤ w1.heap.size + 1 + 1 := by omega
      have hzs : (xs ++ [x]).length ≤ 1048576 := by have := NN.out; simp; omega
      have hus : (ys ++ [y]).length ≤ 1048576 := by have := NN.out; simp; omega
      have d1 := Lib.hid M2.out.1.d1
      have d2 := Lib.hid M2.out.1.d2
      have hbv : vFarm (xs ++ [x]) (ys ++ [y]) r d s = BB := by rw [vFarm_D, d1.out, d2.out]; exact HB.out
      clear r0 r1 q2 q3 q4 M2
      generalize hzz : xs ++ [x] = zs at *
      generalize hyy : ys ++ [y] = us at *
      clear hzz hyy
      generalize A9 = a1, n9 = n1, c9 = m1, A8 = a2, n8 = n2, c8 = m2 at *
      have hG := Lib.hid (grew_trans G1.out hGR)
      refine (c_checkedFarm _ _ _ _ _ r d s _ hRo (Nat.le_refl _)).mono ?_
      rintro e w4 ⟨rfl, hg4⟩
      rw [hbv]
      have hRo4 := Lib.hid (hRo.grew (Nat.le_refl _) hg4)
      have hG4 := Lib.hid (grew_trans hG.out hg4)
      have R4 := Lib.hid ((R1.out.grew z1 hGR).grew (Nat.lt_of_lt_of_le z1 (Below.size hGR)) hg4)
      have hsz4 : wr.heap.size ≤ w4.heap.size := Below.size hg4
      have hw1 : w1.heap.size ≤ wr.heap.size := Below.size hGR
      have z4 : w.heap.size + 1 < w4.heap.size := by omega
      clear hg4 hRo hGR hbv
      obtain ⟨⟨b0, b1, b2, b3, b4⟩, bf⟩ := R4.out
      cases BB
      · simp only [Bool.false_eq_true, if_false, ZFM]
        go_wp2_with fail
        refine bodyPost_ret (v := .tuple #[ZFM, .bool false]) (by simp [results, Try.results20, go_sem, b0, b1, b2, b3, b4, ZFM]) rfl ?_
        have hr1 : (0 : Nat) = RR := H1.out
        have hr2 : (0 : Nat) = RD := H2.out
        have hr3 : (0 : Nat) = RS := H3.out
        rw [← hr1, ← hr2, ← hr3]
        exact ⟨_, [], [], rfl, farm_nil _ _ _, HD.out, HE.out, (by repeat (first | (with_reducible exact hG4.out) | (with_reducible exact grw_refl _) | (with_reducible refine grew_draw _ _ ?_) | (with_reducible refine grew_al ?_ _) | (with_reducible refine grew_set ?_ ?_; rotate_left; omega)))⟩
      · simp only [if_true]
        go_wp2_with fail
        have hst := st5_at R4.out.1 (.slice a1 n1 m1) (.slice a2 n2 m2) r d s
        have hW := st5_wrote w4 (w.heap.size + 1) (.slice a1 n1 m1) (.slice a2 n2 m2) r d s
        obtain ⟨X, Y, he, h1, h2, h3⟩ := hRo4.out
        have hz3 : w.heap.size ≤ w1.heap.size + 1 + 1 := by have := Below.size G1.out; omega
        have hG5 : Grew w (st5 w4 (w.heap.size + 1) (.slice a1 n1 m1) (.slice a2 n2 m2) r d s) := Wrote.below hG4.out hW (by have := Below.size hG4.out; omega) (by omega)
        have hsz5 : wr.heap.size ≤ (st5 w4 (w.heap.size + 1) (.slice a1 n1 m1) (.slice a2 n2 m2) r d s).heap.size := Nat.le_trans hsz4 hW.size
        have hRo5 : FarmAt (st5 w4 (w.heap.size + 1) (.slice a1 n1 m1) (.slice a2 n2 m2) r d s) w.heap.size _ (.agg #[.slice a1 n1 m1, .slice a2 n2 m2, .float .f32 r, .float .f32 d, .float .f32 s]) zs us r d s :=
          ⟨X, Y, he, (h1.wrote hsz4 hW (.inr (by omega))).mono hz3 hsz5, (h2.wrote hsz4 hW (.inr (by omega))).mono hz3 hsz5, h3⟩
        show bodyPost _ _ _ _ _ (st5 w4 (w.heap.size + 1) (.slice a1 n1 m1) (.slice a2 n2 m2) r d s)
        generalize (st5 w4 (w.heap.size + 1) (.slice a1 n1 m1) (.slice a2 n2 m2) r d s) = w5 at *
        obtain ⟨e0, e1, e2, e3, e4⟩ := hst
        refine bodyPost_ret (v := .tuple #[.agg #[.slice a1 n1 m1, .slice a2 n2 m2, .float .f32 r, .float .f32 d, .float .f32 s], .bool true]) (by simp [results, Try.results20, go_sem, e0, e1, e2, e3, e4]) rfl ?_
        have hr1 : r = RR := H1.out
        have hr2 : d = RD := H2.out
        have hr3 : s = RS := H3.out
        rw [← hr1, ← hr2, ← hr3]
        exact ⟨_, zs, us, rfl, hRo5, by first | exact d1.out.trans HD.out | exact HD.out, by first | exact d2.out.trans HE.out | exact HE.out, hG5⟩

end Go.Proofs.Ytlakmogclcpgdaa
