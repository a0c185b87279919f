/-
  CONTRACTS: slices of floats that are looked through.
-/
import Derived.Lib.Hide
import Derived.Test.YtlakmogclcpgdaaNumMg
namespace Go.Proofs.Ytlakmogclcpgdaa
open Go.RowKit Go.Flt
set_option linter.unusedVariables false
set_option maxRecDepth 100000
set_option linter.unusedSimpArgs false

theorem bcell {W w1 : World} (hb : Below W.heap.size W w1) : (∀ b o, b < W.heap.size → w1.cell? ⟨b, o, none⟩ = W.cell? ⟨b, o, none⟩) ∧ (∀ b o, b < W.heap.size → w1.frozen? ⟨b, o, none⟩ = W.frozen? ⟨b, o, none⟩) :=
  ⟨fun b o h => hb.cell (p := ⟨b, o, none⟩) h, fun b o h => hb.frozen (p := ⟨b, o, none⟩) h⟩

theorem below_draws {B : Nat} {w w' : World} (h : Below B w w') (n : Nat) : Below B w (w'.drewN n) := ⟨h.os, h.tape, h.output, h.size, h.block⟩

theorem below_then {B : Nat} {w W w' : World} (hw : Below W.heap.size W w') (hB : B ≤ W.heap.size) (h : Below B w W) : Below B w w' := h.trans (hw.mono hB)

@[go_sem] theorem setCell_drewN' (w : World) (n : Nat) (a : Addr) (v : Value) : (w.drewN n).setCell a v = (w.setCell a v).drewN n := rfl

/-! ### What a call has made lies behind what was there: the world before it, put out by some objects -/

def wext (w : World) (os : Array Obj) (n : Nat) : World := { w with heap := w.heap ++ os, drawn := n }

theorem below_ext {w w' : World} (h : Below w.heap.size w w') : ∃ os n, w' = wext w os n := by
  refine ⟨w'.heap.extract w.heap.size, w'.drawn, ?_⟩
  have hh : w'.heap = w.heap ++ w'.heap.extract w.heap.size := by
    apply Array.ext_getElem?
    intro i
    by_cases hi : i < w.heap.size
    · rw [Array.getElem?_append_left hi]
      exact h.block i hi
    · rw [Array.getElem?_append_right (by omega), Array.getElem?_extract]
      split
      · congr 1; omega
      · rw [Array.getElem?_eq_none]; omega
  obtain ⟨hp, tp, dr, os, out⟩ := w'
  obtain ⟨h1, h2, h3, _, _⟩ := h
  simp only [wext] at *
  subst h1 h2 h3
  rw [← hh]

theorem ext_below {B : Nat} {w w' : World} (h : Below B w w') (hB : B ≤ w'.heap.size) (os : Array Obj) (n : Nat) : Below B w (wext w' os n) :=
  ⟨h.os, h.tape, h.output, by simp [wext]; have := h.size; omega, fun r hr => by
    have h1 : (wext w' os n).heap[r]? = w'.heap[r]? := Array.getElem?_append_left (by omega)
    rw [h1]
    exact h.block r hr⟩

@[go_sem] theorem ext_drewN (w : World) (os : Array Obj) (n k : Nat) : (wext w os n).drewN k = wext w os (n + k) := rfl

@[go_sem] theorem ext_drew (w : World) (os : Array Obj) (n : Nat) : (wext w os n).drew = wext w os (n + 1) := rfl

@[go_sem] theorem drewN_ext (w : World) (os : Array Obj) (n k : Nat) : wext (w.drewN k) os n = wext w os n := rfl

@[go_sem] theorem drew_ext (w : World) (os : Array Obj) (n : Nat) : wext w.drew os n = wext w os n := rfl

@[go_sem] theorem size_ext (w : World) (os : Array Obj) (n : Nat) : (wext w os n).heap.size = w.heap.size + os.size := by simp [wext]

@[go_sem] theorem cell_ext (w : World) (os : Array Obj) (n b i : Nat) (h : b < w.heap.size) : (wext w os n).cell? ⟨b, i, none⟩ = w.cell? ⟨b, i, none⟩ := by
  simp [World.cell?, wext, Array.getElem?_append_left h]

@[go_sem] theorem frozen_ext (w : World) (os : Array Obj) (n b i : Nat) (h : b < w.heap.size) : (wext w os n).frozen? ⟨b, i, none⟩ = w.frozen? ⟨b, i, none⟩ := by
  simp [World.frozen?, wext, Array.getElem?_append_left h]

@[go_sem] theorem set_ext (w : World) (os : Array Obj) (n b i : Nat) (v : Value) (h : b < w.heap.size) : (wext w os n).setCell ⟨b, i, none⟩ v = wext (w.setCell ⟨b, i, none⟩ v) os n := by
  have : ∀ f : Obj → Obj, (w.heap ++ os).modify b f = w.heap.modify b f ++ os := fun f => by
    apply Array.ext_getElem?
    intro j
    simp only [Array.getElem?_modify, Array.getElem?_append, Array.size_modify]
    by_cases hj : j < w.heap.size
    · simp [hj]
    · simp [hj]
      intro hb; omega
  simp only [World.setCell, wext, this]

theorem fits_zero : fits 0 := rfl

/-! ### What a call hands back: said behind a name, so that the walk does not take it apart -/
def RetF (d : Ieee.Datum) (R : World → Prop) (e : Ending) (w' : World) : Prop := ∃ r, e = .returned (.float .f32 r) ∧ cl .f32 r = d ∧ fits r ∧ R w'

def RetFB (d : Ieee.Datum) (b : Bool) (R : World → Prop) (e : Ending) (w' : World) : Prop := ∃ r, e = .returned (.tuple #[.float .f32 r, .bool b]) ∧ cl .f32 r = d ∧ fits r ∧ R w'
/-- A number that counts where it is finite and all is well; else 0. -/
def num (ok : Bool) (x : Ieee.Datum) : Ieee.Datum := if ok && fin x then x else cl .f32 0
/-- A number, if it is finite; else 0. -/
def chkW (x : Nat) : Nat := if fin (cl .f32 x) then x else 0

def chk (x : Ieee.Datum) : Ieee.Datum := if fin x then x else cl .f32 0

@[go_sem] theorem cl_chkW (x : Nat) : cl .f32 (chkW x) = chk (cl .f32 x) := by unfold chkW chk; split <;> rfl

theorem fits_chkW {x : Nat} (h : fits x) : fits (chkW x) := by unfold chkW; split; exact h; exact fits_zero

theorem drawn_trans {a b c : World} (h : Drawn a b) (k : Drawn b c) : Drawn a c := by
  obtain ⟨n, rfl⟩ := h
  obtain ⟨m, rfl⟩ := k
  exact ⟨n + m, World.drewN_drewN _ _ _⟩

theorem grew_trans {a b c : World} (h : Grew a b) (k : Grew b c) : Grew a c := Below.trans h (Below.mono k (Below.size h))

theorem grew_of_drawn {a b : World} (h : Drawn a b) : Grew a b := by
  obtain ⟨n, rfl⟩ := h
  exact ⟨rfl, rfl, rfl, Nat.le_refl _, fun _ _ => rfl⟩

/-- The slice '.slice A n _' holds the floats xs, below block B. -/
def Fl (w : World) (B : Nat) (A : Option Addr) (n : Nat) (xs : List Nat) : Prop :=
  xs.length = n ∧ (0 < n → ∃ b off, A = some ⟨b, off, none⟩ ∧ b < B ∧ ∀ i x, xs[i]? = some x → w.cell? ⟨b, off + i, none⟩ = some (.float .f32 x))

theorem Fl.keep {w w' : World} {B n : Nat} {A : Option Addr} {xs : List Nat} (h : Fl w B A n xs) (hk : ∀ b o, b < B → w'.cell? ⟨b, o, none⟩ = w.cell? ⟨b, o, none⟩) : Fl w' B A n xs :=
  ⟨h.1, fun hn => by
    obtain ⟨b, off, e, hb, hc⟩ := h.2 hn
    exact ⟨b, off, e, hb, fun i x hx => (hk _ _ hb).trans (hc i x hx)⟩⟩

theorem Fl.drewN {w : World} {B n : Nat} {A : Option Addr} {xs : List Nat} (h : Fl w B A n xs) (k : Nat) : Fl (w.drewN k) B A n xs := h

theorem Fl.below {w w' : World} {B n : Nat} {A : Option Addr} {xs : List Nat} (h : Fl w B A n xs) (hb : Below B w w') : Fl w' B A n xs := h.keep fun _ _ hp => hb.cell hp

theorem heap_push (w : World) (o : Obj) : (w.alloc o).heap = w.heap.push o := rfl

theorem heap_drew' (w : World) : w.drew.heap = w.heap := rfl

theorem fl_block {w : World} {b n K : Nat} {xs : List Nat} {t : TypeId} {fr : Nat × Nat} {cs : Array Value} (hcs : cs = (xs.map (Value.float .f32)).toArray) (hn : xs.length = n) (hK : b < K) (h : w.heap[b]? = some (.cells cs t fr)) :
    Fl w K (some ⟨b, 0, none⟩) n xs := by
  refine ⟨hn, fun _ => ⟨b, 0, rfl, hK, fun i x hx => ?_⟩⟩
  rw [Nat.zero_add, cell_of_row w b i cs t fr h, hcs]
  simp [hx]

theorem fl_new (W : World) (xs : List Nat) (b : Nat) (t : TypeId) (cs : Array Value) (hb : b = W.heap.size) (hcs : cs = (xs.map (Value.float .f32)).toArray) :
    Fl (W.alloc (.cells cs t)) (b + 1) (some ⟨b, 0, none⟩) xs.length xs := by
  subst hb
  subst hcs
  refine ⟨rfl, fun _ => ⟨_, 0, rfl, Nat.lt_succ_self _, fun i x hx => ?_⟩⟩
  rw [Nat.zero_add, cell_of_row (W.alloc _) W.heap.size i (xs.map (Value.float .f32)).toArray t (0, 0) (heap_alloc_new W _)]
  simp [hx]

/-- The first place at which p says yes; -1 where there is none. -/
def idx (p : Nat → Bool) : List Nat → Int
  | [] => -1
  | x :: xs => if p x then 0 else if idx p xs < 0 then -1 else idx p xs + 1

theorem idx_any (p : Nat → Bool) (xs : List Nat) : decide (0 ≤ idx p xs) = xs.any p := by
  have hge : ∀ xs : List Nat, -1 ≤ idx p xs := by
    intro xs
    induction xs with
    | nil => simp [idx]
    | cons x xs ih => unfold idx; split; omega; split <;> omega
  induction xs with
  | nil => simp [idx]
  | cons x xs ih =>
    unfold idx
    by_cases h : p x = true
    · simp [h]
    · by_cases h' : idx p xs < 0
      · have : xs.any p = false := by rw [← ih]; simpa using h'
        simp [h, h', this]
      · have : xs.any p = true := by rw [← ih]; simpa using h'
        simp [h, h', this]
        omega

theorem idx_at {p : Nat → Bool} {xs : List Nat} {k : Nat} (hno : ∀ j x, j < k → xs[j]? = some x → p x = false) (hk : k < xs.length) (hx : p xs[k] = true) : idx p xs = k := by
  induction xs generalizing k with
  | nil => simp at hk
  | cons y ys ih =>
    unfold idx
    cases k with
    | zero => simp at hx; simp [hx]
    | succ k =>
      have h0 := hno 0 y (by omega) rfl
      have := ih (k := k) (fun j x hj hx => hno (j + 1) x (by omega) (by simpa using hx)) (by simpa using hk) (by simpa using hx)
      simp [h0, this]
      omega

theorem idx_none {p : Nat → Bool} {xs : List Nat} (hno : ∀ x ∈ xs, p x = false) : idx p xs = -1 := by
  induction xs with
  | nil => rfl
  | cons y ys ih =>
    unfold idx
    rw [ih fun x hx => hno x (by simp [hx])]
    simp [hno y (by simp)]


theorem c_IndexFunc1 (A : Option Addr) (cap B : Nat) (xs : List Nat) (w : World) (h : Fl w B A xs.length xs) (hm : xs.length ≤ maxLen) :
    Calls Try.prog 89 #[.slice A xs.length cap, .func (.func 88) #[] #[]] w fun e w' => e = .returned (.int .i64 (idx (fun x => !fin (cl .f32 x) || fle (cl .f32 x) (cl .f32 0)) xs)) ∧ ∃ n, w' = w.drewN n := by
  unfold maxLen at hm
  obtain ⟨_, hc⟩ := h
  rcases Nat.eq_zero_or_pos xs.length with h0 | h0
  · have : xs = [] := List.eq_nil_of_length_eq_zero h0
    subst this
    clear h0
    go_enter Try.func89, Try.ntmps89
    go_wp2_with fail
    refine wp_loop_rounds 1 ?_
    rw [rounds_succ]
    go_wp2_with fail
    go_ret
    exact ⟨rfl, 0, rfl⟩
  · obtain ⟨b, off, rfl, _, hc⟩ := hc h0
    have HC := Lib.hid hc
    clear hc
    generalize hP : (fun x => !fin (cl .f32 x) || fle (cl .f32 x) (cl .f32 0)) = P
    have hp : ∀ x w, Calls Try.prog 88 #[.float .f32 x] w fun e w' => e = .returned (.bool (P x)) ∧ ∃ n, w' = w.drewN n := by subst hP; exact c_arePositive1
    clear hP
    have HP := Lib.hid hp
    clear hp
    go_enter Try.func89, Try.ntmps89
    go_wp2_with fail
    go_loopw [8] (fun i wr => ∃ k : Nat, k ≤ xs.length ∧ i = .int .i64 k ∧ Hid (∀ j x, j < k → xs[j]? = some x → P x = false) ∧ ∃ m, wr = w.drewN m) (fun i _ => xs.length - (intOf i).toNat)
    case atStart => exact ⟨0, Nat.zero_le _, rfl, fun _ _ h => absurd h (by omega), 0, rfl⟩
    case round =>
      obtain ⟨k, hk, rfl, hno, m, rfl⟩ := hrel
      by_cases hlt : k < xs.length
      · have hcell := HC.out k xs[k] (List.getElem?_eq_getElem hlt)
        cases hpx : P xs[k]
        · have HX := Lib.hid hpx
          go_wp2_with ((go_at_call 88; refine (HP.out _ _).mono ?_; rintro e w' ⟨rfl, nq, rfl⟩))
          go_roundw
          case rel => exact ⟨k + 1, by omega, by go_num, fun j x hj hx' => (by
            rcases Nat.lt_or_ge j k with h | h
            · exact hno.out j x h hx'
            · obtain rfl : j = k := by omega
              rw [List.getElem?_eq_getElem hlt] at hx'
              injection hx' with hx'
              rw [← hx']
              exact HX.out), _, rfl⟩
          case measure => simp [intOf]; omega
        · have HX := Lib.hid hpx
          go_wp2_with ((go_at_call 88; refine (HP.out _ _).mono ?_; rintro e w' ⟨rfl, nq, rfl⟩))
          go_ret
          exact ⟨by rw [idx_at hno.out hlt HX.out]; rfl, _, rfl⟩
      · have HE := Lib.hid (idx_none (p := P) (xs := xs) fun x hx => (by
          obtain ⟨j, hj, rfl⟩ := List.getElem_of_mem hx
          exact hno.out j _ (by omega) (List.getElem?_eq_getElem hj)))
        clear hno
        go_wp2_with fail
        go_ret
        exact ⟨by rw [HE.out]; rfl, _, rfl⟩

theorem c_ContainsFunc1 (A : Option Addr) (cap B : Nat) (xs : List Nat) (w : World) (h : Fl w B A xs.length xs) (hm : xs.length ≤ maxLen) :
    Calls Try.prog 76 #[.slice A xs.length cap, .func (.func 88) #[] #[]] w fun e w' => e = .returned (.bool (xs.any (fun x => !fin (cl .f32 x) || fle (cl .f32 x) (cl .f32 0)))) ∧ ∃ n, w' = w.drewN n := by
  have HF := Lib.hid h
  clear h
  go_enter Try.func76, Try.ntmps76
  go_wp2_with (go_at_call 89; refine (c_IndexFunc1 _ _ B _ _ HF.out hm).mono ?_; rintro e w' ⟨rfl, nq, rfl⟩)
  go_ret
  exact ⟨by rw [← idx_any]; rfl, _, rfl⟩


theorem c_arePositive (A : Option Addr) (cap B : Nat) (xs : List Nat) (w : World) (h : Fl w B A xs.length xs) (hm : xs.length ≤ maxLen) :
    Calls Try.prog 74 #[.slice A xs.length cap] w fun e w' => e = .returned (.bool (!xs.any fun x => !fin (cl .f32 x) || fle (cl .f32 x) (cl .f32 0))) ∧ ∃ n, w' = w.drewN n := by
  have HF := Lib.hid h
  clear h
  go_enter Try.func74, Try.ntmps74
  go_wp2_with (go_at_call 76; refine (c_ContainsFunc1 _ _ B _ _ HF.out hm).mono ?_; rintro e w' ⟨rfl, nq, rfl⟩)
  go_ret
  exact ⟨rfl, _, rfl⟩

end Go.Proofs.Ytlakmogclcpgdaa

/-
  CONTRACTS: slices of integers that a law copies, compares, marks.
-/
namespace Go.Proofs.Ytlakmogclcpgdaa
open Go.RowKit Go.Flt
set_option linter.unusedVariables false
set_option maxRecDepth 100000
set_option linter.unusedSimpArgs false

/-- The slice '.slice A n _' holds the values g x of the list, below block K. -/
def Slc {α : Type} (g : α → Value) (w : World) (K : Nat) (A : Option Addr) (n : Nat) (xs : List α) : Prop :=
  xs.length = n ∧ (0 < n → ∃ b off, A = some ⟨b, off, none⟩ ∧ b < K ∧ ∀ i x, xs[i]? = some x → w.cell? ⟨b, off + i, none⟩ = some (g x))

/-- Block b is a row of its own. -/
def Own {α : Type} (g : α → Value) (t : TypeId) (w : World) (b : Nat) (xs : List α) : Prop := w.heap[b]? = some (.cells (xs.map g).toArray t (0, 0))

theorem Slc.keep {α : Type} {g : α → Value} {w w' : World} {K n : Nat} {A : Option Addr} {xs : List α} (h : Slc g w K A n xs) (hk : ∀ b o, b < K → w'.cell? ⟨b, o, none⟩ = w.cell? ⟨b, o, none⟩) : Slc g w' K A n xs :=
  ⟨h.1, fun hn => by
    obtain ⟨b, off, e, hb, hc⟩ := h.2 hn
    exact ⟨b, off, e, hb, fun i x hx => (hk _ _ hb).trans (hc i x hx)⟩⟩

theorem Slc.grew {α : Type} {g : α → Value} {w w' : World} {K n : Nat} {A : Option Addr} {xs : List α} (h : Slc g w K A n xs) (hK : K ≤ w.heap.size) (hb : Grew w w') : Slc g w' K A n xs :=
  h.keep fun _ _ hp => (bcell hb).1 _ _ (by omega)

theorem Slc.drewN {α : Type} {g : α → Value} {w : World} {K n : Nat} {A : Option Addr} {xs : List α} (h : Slc g w K A n xs) (k : Nat) : Slc g (w.drewN k) K A n xs := h

theorem Slc.mono {α : Type} {g : α → Value} {w : World} {K K' n : Nat} {A : Option Addr} {xs : List α} (h : Slc g w K A n xs) (hK : K ≤ K') : Slc g w K' A n xs :=
  ⟨h.1, fun hn => by
    obtain ⟨b, off, e, hb, hc⟩ := h.2 hn
    exact ⟨b, off, e, by omega, hc⟩⟩

section
variable {α : Type} {g : α → Value} {t : TypeId} {w w' : World} {b : Nat} {xs : List α}

theorem Own.cell (h : Own g t w b xs) {i : Nat} {x : α} (hx : xs[i]? = some x) : w.cell? ⟨b, i, none⟩ = some (g x) := by
  rw [cell_of_row w b i _ t (0, 0) h]
  simp [hx]

theorem Own.free (h : Own g t w b xs) (i : Nat) : w.frozen? ⟨b, i, none⟩ = false := by
  unfold Own at h
  simp [World.frozen?, h]

theorem Own.lt (h : Own g t w b xs) : b < w.heap.size := by
  unfold Own at h
  exact (Array.getElem?_eq_some_iff.1 h).1

theorem Own.drewN (h : Own g t w b xs) (n : Nat) : Own g t (w.drewN n) b xs := h

theorem Own.slc (h : Own g t w b xs) {K : Nat} (hK : b < K) : Slc g w K (some ⟨b, 0, none⟩) xs.length xs :=
  ⟨rfl, fun _ => ⟨b, 0, rfl, hK, fun i x hx => by rw [Nat.zero_add]; exact h.cell hx⟩⟩

theorem Own.grew (h : Own g t w b xs) (hg : Grew w w') : Own g t w' b xs := by
  unfold Own at *
  rw [hg.block b (Own.lt (g := g) h)]
  exact h

theorem Own.set (h : Own g t w b xs) (i : Nat) (v : α) : Own g t (w.setCell ⟨b, i, none⟩ (g v)) b (xs.set i v) := by
  unfold Own at *
  simp [World.setCell, h, List.map_set, Array.getElem?_modify]

theorem Own.set_other (h : Own g t w b xs) {b' : Nat} (hb : b ≠ b') (i : Nat) (v : Value) : Own g t (w.setCell ⟨b', i, none⟩ v) b xs := by
  unfold Own at *
  simp only [World.setCell, Array.getElem?_modify]
  rw [if_neg (Ne.symm hb)]
  exact h
end

theorem grew_refl (w : World) : Grew w w := Below.refl _ _

theorem grew_set {w w' : World} {b i : Nat} {v : Value} (h : Grew w w') (hb : w.heap.size ≤ b) : Grew w (w'.setCell ⟨b, i, none⟩ v) := Below.setCell h hb _

theorem madeCells_one (z : Value) (hz : z.cells = #[z]) (n : Nat) : madeCells z.cells n = (List.replicate n z).toArray := by
  rw [hz]
  unfold madeCells
  apply Array.ext
  · simp
  · intro i h1 h2
    simp [Nat.mod_one]

theorem list_grow {α : Type} (xs : List α) (z : α) (k : Nat) (hk : k < xs.length) : (xs.take k ++ List.replicate (xs.length - k) z).set k xs[k] = xs.take (k + 1) ++ List.replicate (xs.length - (k + 1)) z := by
  have h1 : xs.length - k = (xs.length - (k + 1)) + 1 := by omega
  rw [h1, List.replicate_succ, List.set_append_right _ _ (by simp; omega)]
  have h2 : k - (xs.take k).length = 0 := by simp; omega
  rw [h2, List.set_cons_zero, List.take_succ_eq_append_getElem hk, List.append_assoc]
  rfl

theorem list_grow_at {α : Type} (xs : List α) (z : α) (k : Nat) (hk : k < xs.length) : (xs.take k ++ List.replicate (xs.length - k) z)[k]? = some z := by
  have hl : (xs.take k).length = k := by simp; omega
  rw [List.getElem?_append_right (by rw [hl]; exact Nat.le_refl _), hl, Nat.sub_self]
  rw [List.getElem?_replicate, if_pos (by omega)]

theorem made {P : Program} (t e : TypeId) (i : TypeInfo) (z : Value) (ht : P.underlying t = some (.slice e)) (hi : P.info? e = some i) (hz : i.zero = some z) (hs : i.size = 1) (hc : z.cells = #[z]) (hb : i.bytes ≤ 16) (n : Nat) (hn : n ≤ 1048576) (w : World) :
    (Instr.makeSlice t (.int .i64 (n : Int)) (.int .i64 (n : Int))).run P w = .ok (.slice (some ⟨w.heap.size, 0, none⟩) n n) (w.alloc (.cells (List.replicate n z).toArray e)) := by
  have hm : (i.bytes : Int) * (n : Int) ≤ 281474976710656 := by
    have h1 : i.bytes * n ≤ 16 * 1048576 := Nat.mul_le_mul hb hn
    have h2 : ((i.bytes * n : Nat) : Int) ≤ 281474976710656 := by omega
    rwa [Int.natCast_mul] at h2
  rw [run_make w t e i z ht hi hz .i64 .i64 n n (by omega) (Int.le_refl _) hm (by omega)]
  simp only [Int.toNat_natCast, hs, Nat.mul_one]
  rw [madeCells_one z hc]


theorem info_float32 : (Try.prog.info? 22).map (fun i => (i.zero, i.size, i.bytes)) = some (some (.float .f32 0), 1, 4) := by kernel_rfl

theorem mk_float32 (n : Nat) (hn : n ≤ 1048576) (w : World) : (Instr.makeSlice 23 (.int .i64 (n : Int)) (.int .i64 (n : Int))).run Try.prog w = .ok (.slice (some ⟨w.heap.size, 0, none⟩) n n) (w.alloc (.cells (List.replicate n (.float .f32 0)).toArray 22)) := by
  obtain ⟨i, hi, hz0, hz1, hz2⟩ := info_parts info_float32
  exact made 23 22 i (.float .f32 0) Try.underlying23 hi hz0 hz1 rfl (by omega) n hn w

theorem c_toFloat32S (A : Option Addr) (n cap K : Nat) (xs : List Nat) (w : World) (h : Slc (Value.float .f32) w K A n xs) (hK : K ≤ w.heap.size) (hn : n ≤ 1048576) :
    Calls Try.prog 47 #[.slice A n cap] w fun e w' => ∃ b, e = .returned (.slice (some ⟨b, 0, none⟩) n n) ∧ w.heap.size ≤ b ∧ Own (Value.float .f32) 22 w' b xs ∧ Grew w w' := by
  have HM := mk_float32 n hn
  obtain rfl := h.1
  have HS := Lib.hid h
  clear h
  go_enter Try.func47, Try.ntmps47
  go_wp2_with fail
  have h0 : Own (Value.float .f32) 22 (w.alloc (.cells (List.replicate xs.length (.float .f32 0)).toArray 22)) w.heap.size (xs.take 0 ++ List.replicate (xs.length - 0) 0) := by
    unfold Own
    simp [heap_push, Array.getElem?_push]
  have H0 := Lib.hid h0
  clear h0 HM
  go_loopw [4] (fun i wr => ∃ k : Nat, k ≤ xs.length ∧ i = .int .i64 k ∧ Hid (Own (Value.float .f32) 22 wr w.heap.size (xs.take k ++ List.replicate (xs.length - k) 0)) ∧ Hid (Grew w wr)) (fun i _ => xs.length - (intOf i).toNat)
  case atStart => exact ⟨0, Nat.zero_le _, rfl, H0, by show Below _ _ _; (repeat (first | exact Below.refl _ _ | refine ext_below ?_ (by first | omega | (simp only [size_ext, heap_push, Array.size_push, World.heap_drewN]; omega) | (simp; omega)) _ _ | refine below_draws ?_ _ | refine Below.alloc ?_ (by first | omega | (simp; done) | (simp; omega)) _ | refine Below.setCell ?_ (by first | omega | (simp; done) | (simp; omega)) _ | refine below_then (by assumption) (by first | omega | (simp; done) | (simp; omega)) ?_))⟩
  case round =>
    obtain ⟨k, hk, rfl, hown, hg⟩ := hrel
    by_cases hlt : k < xs.length
    · obtain ⟨b, off, rfl, hbK, hc⟩ := HS.out.2 (by omega)
      have hbw : b < w.heap.size := Nat.lt_of_lt_of_le hbK hK
      have hcell : wr.cell? ⟨b, off + k, none⟩ = some (Value.float .f32 xs[k]) := ((bcell hg.out).1 b (off + k) hbw).trans (hc k _ (List.getElem?_eq_getElem hlt))
      have hd : wr.cell? ⟨w.heap.size, k, none⟩ = some (Value.float .f32 0) := hown.out.cell (list_grow_at xs 0 k hlt)
      have hf := hown.out.free k
      clear hc
      have hn : Own (Value.float .f32) 22 (wr.setCell ⟨w.heap.size, k, none⟩ (Value.float .f32 xs[k])) w.heap.size (xs.take (k + 1) ++ List.replicate (xs.length - (k + 1)) 0) := by
        rw [← list_grow xs 0 k hlt]
        exact hown.out.set k _
      have HN := Lib.hid hn
      clear hn
      go_wp2_with fail
      go_roundw
      case rel => exact ⟨k + 1, by omega, by go_num, HN, grew_set hg.out (Nat.le_refl _)⟩
      case measure => simp [intOf]; omega
    · go_wp2_with fail
      go_ret
      obtain rfl : k = xs.length := by omega
      have hE := hown.out
      simp only [List.take_length, Nat.sub_self, List.replicate_zero, List.append_nil] at hE
      exact ⟨_, rfl, Nat.le_refl _, hE, hg.out⟩

end Go.Proofs.Ytlakmogclcpgdaa

/-
  CONTRACTS: how a law compares two floats.
-/
namespace Go.Proofs.Ytlakmogclcpgdaa
open Go.RowKit Go.Flt
set_option linter.unusedVariables false
set_option maxRecDepth 100000
set_option linter.unusedSimpArgs false

theorem c_sameFloat (x y : Nat) (w : World) (h : cl .f64 x = cl .f64 y) : Calls Try.prog 27 #[.float .f64 x, .float .f64 y] w fun e w' => e = .returned (.bool true) ∧ ∃ n, w' = w.drewN n := by
  have sx := feq_self (cl .f64 x)
  have sy := feq_self (cl .f64 y)
  rw [← h] at sy
  have HX : Hid (cl .f64 y = cl .f64 x) := h.symm
  generalize hd : cl .f64 x = d at *
  have HD := Lib.hid hd
  have ex : feq (cl .f64 x) (cl .f64 x) = !d.isNaN := by rw [hd]; exact sx
  have ey : feq (cl .f64 y) (cl .f64 y) = !d.isNaN := by rw [← h]; exact sx
  have exy : feq (cl .f64 x) (cl .f64 y) = !d.isNaN := by rw [hd, ← h]; exact sx
  clear sx sy h hd
  cases hn : d.isNaN
  · rw [hn] at ex ey exy
    cases hz : feq d (cl .f64 0)
    · have zx : feq (cl .f64 x) (cl .f64 0) = false := by rw [HD.out]; exact hz
      clear hz hn
      go_enter Try.func27, Try.ntmps27
      go_wp2_with (refine upon_fbin rfl _ _ _ _ ?_; intro z n hz hzw)
      go_ret
      exact ⟨rfl, by (first | exact ⟨_, rfl⟩ | exact ⟨0, rfl⟩ | exact ⟨_, World.drewN_drewN _ _ _⟩ | (simp only [World.drewN_drewN]; exact ⟨_, rfl⟩))⟩
    · have zx : feq (cl .f64 x) (cl .f64 0) = true := by rw [HD.out]; exact hz
      have zy : feq (cl .f64 y) (cl .f64 0) = true := by rw [HX.out]; exact hz
      clear hz hn
      go_enter Try.func27, Try.ntmps27
      go_wp2_with (refine upon_fbin rfl _ _ _ _ ?_; intro z n hz hzw)
      go_ret
      exact ⟨by rw [HX.out, HD.out, beq_self_eq_true]; rfl, by (first | exact ⟨_, rfl⟩ | exact ⟨0, rfl⟩ | exact ⟨_, World.drewN_drewN _ _ _⟩ | (simp only [World.drewN_drewN]; exact ⟨_, rfl⟩))⟩
  · rw [hn] at ex ey exy
    clear hn
    go_enter Try.func27, Try.ntmps27
    go_wp2_with fail
    go_ret
    exact ⟨rfl, by (first | exact ⟨_, rfl⟩ | exact ⟨0, rfl⟩ | exact ⟨_, World.drewN_drewN _ _ _⟩ | (simp only [World.drewN_drewN]; exact ⟨_, rfl⟩))⟩

end Go.Proofs.Ytlakmogclcpgdaa

/-
  CONTRACTS: lists of floats that are all of a kind.
-/
namespace Go.Proofs.Ytlakmogclcpgdaa
open Go.RowKit Go.Flt
set_option linter.unusedVariables false
set_option maxRecDepth 100000
set_option linter.unusedSimpArgs false

theorem c_areFinite1 (x : Nat) (w : World) : Calls Try.prog 83 #[.float .f32 x] w fun e w' => e = .returned (.bool (!fin (cl .f32 x))) ∧ ∃ n, w' = w.drewN n := by
  go_enter Try.func83, Try.ntmps83
  go_wp2_with (go_at_call 66; refine (c_IsFinite _ _).mono ?_; rintro e w' ⟨rfl, nq, rfl⟩)
  go_ret
  exact ⟨rfl, _, rfl⟩

theorem c_areLeast1 (x : Nat) (w : World) : Calls Try.prog 97 #[.float .f32 x] w fun e w' => e = .returned (.bool (!least (cl .f32 x))) ∧ ∃ n, w' = w.drewN n := by
  go_enter Try.func97, Try.ntmps97
  go_wp2_with (go_at_call 67; refine (c_isLeast _ _).mono ?_; rintro e w' ⟨rfl, nq, rfl⟩)
  go_ret
  exact ⟨rfl, _, rfl⟩

theorem c_ValidFarm1 (x : Nat) (w : World) : Calls Try.prog 78 #[.float .f32 x] w fun e w' => e = .returned (.bool (!fromTo (cl .f32 x) (cl .f32 3351465984) (cl .f32 1203982336))) ∧ ∃ n, w' = w.drewN n := by
  go_enter Try.func78, Try.ntmps78
  go_wp2_with (go_at_call 75; refine (c_isFromTo _ _ _ _).mono ?_; rintro e w' ⟨rfl, nq, rfl⟩)
  go_ret
  exact ⟨rfl, _, rfl⟩


theorem c_IndexFunc2 (A : Option Addr) (cap B : Nat) (xs : List Nat) (w : World) (h : Fl w B A xs.length xs) (hm : xs.length ≤ maxLen) :
    Calls Try.prog 89 #[.slice A xs.length cap, .func (.func 83) #[] #[]] w fun e w' => e = .returned (.int .i64 (idx (fun x => !fin (cl .f32 x)) xs)) ∧ ∃ n, w' = w.drewN n := by
  unfold maxLen at hm
  obtain ⟨_, hc⟩ := h
  rcases Nat.eq_zero_or_pos xs.length with h0 | h0
  · have : xs = [] := List.eq_nil_of_length_eq_zero h0
    subst this
    clear h0
    go_enter Try.func89, Try.ntmps89
    go_wp2_with fail
    refine wp_loop_rounds 1 ?_
    rw [rounds_succ]
    go_wp2_with fail
    go_ret
    exact ⟨rfl, 0, rfl⟩
  · obtain ⟨b, off, rfl, _, hc⟩ := hc h0
    have HC := Lib.hid hc
    clear hc
    generalize hP : (fun x => !fin (cl .f32 x)) = P
    have hp : ∀ x w, Calls Try.prog 83 #[.float .f32 x] w fun e w' => e = .returned (.bool (P x)) ∧ ∃ n, w' = w.drewN n := by subst hP; exact c_areFinite1
    clear hP
    have HP := Lib.hid hp
    clear hp
    go_enter Try.func89, Try.ntmps89
    go_wp2_with fail
    go_loopw [8] (fun i wr => ∃ k : Nat, k ≤ xs.length ∧ i = .int .i64 k ∧ Hid (∀ j x, j < k → xs[j]? = some x → P x = false) ∧ ∃ m, wr = w.drewN m) (fun i _ => xs.length - (intOf i).toNat)
    case atStart => exact ⟨0, Nat.zero_le _, rfl, fun _ _ h => absurd h (by omega), 0, rfl⟩
    case round =>
      obtain ⟨k, hk, rfl, hno, m, rfl⟩ := hrel
      by_cases hlt : k < xs.length
      · have hcell := HC.out k xs[k] (List.getElem?_eq_getElem hlt)
        cases hpx : P xs[k]
        · have HX := Lib.hid hpx
          go_wp2_with ((go_at_call 83; refine (HP.out _ _).mono ?_; rintro e w' ⟨rfl, nq, rfl⟩))
          go_roundw
          case rel => exact ⟨k + 1, by omega, by go_num, fun j x hj hx' => (by
            rcases Nat.lt_or_ge j k with h | h
            · exact hno.out j x h hx'
            · obtain rfl : j = k := by omega
              rw [List.getElem?_eq_getElem hlt] at hx'
              injection hx' with hx'
              rw [← hx']
              exact HX.out), _, rfl⟩
          case measure => simp [intOf]; omega
        · have HX := Lib.hid hpx
          go_wp2_with ((go_at_call 83; refine (HP.out _ _).mono ?_; rintro e w' ⟨rfl, nq, rfl⟩))
          go_ret
          exact ⟨by rw [idx_at hno.out hlt HX.out]; rfl, _, rfl⟩
      · have HE := Lib.hid (idx_none (p := P) (xs := xs) fun x hx => (by
          obtain ⟨j, hj, rfl⟩ := List.getElem_of_mem hx
          exact hno.out j _ (by omega) (List.getElem?_eq_getElem hj)))
        clear hno
        go_wp2_with fail
        go_ret
        exact ⟨by rw [HE.out]; rfl, _, rfl⟩

theorem c_ContainsFunc2 (A : Option Addr) (cap B : Nat) (xs : List Nat) (w : World) (h : Fl w B A xs.length xs) (hm : xs.length ≤ maxLen) :
    Calls Try.prog 76 #[.slice A xs.length cap, .func (.func 83) #[] #[]] w fun e w' => e = .returned (.bool (xs.any (fun x => !fin (cl .f32 x)))) ∧ ∃ n, w' = w.drewN n := by
  have HF := Lib.hid h
  clear h
  go_enter Try.func76, Try.ntmps76
  go_wp2_with (go_at_call 89; refine (c_IndexFunc2 _ _ B _ _ HF.out hm).mono ?_; rintro e w' ⟨rfl, nq, rfl⟩)
  go_ret
  exact ⟨by rw [← idx_any]; rfl, _, rfl⟩

theorem c_IndexFunc3 (A : Option Addr) (cap B : Nat) (xs : List Nat) (w : World) (h : Fl w B A xs.length xs) (hm : xs.length ≤ maxLen) :
    Calls Try.prog 89 #[.slice A xs.length cap, .func (.func 97) #[] #[]] w fun e w' => e = .returned (.int .i64 (idx (fun x => !least (cl .f32 x)) xs)) ∧ ∃ n, w' = w.drewN n := by
  unfold maxLen at hm
  obtain ⟨_, hc⟩ := h
  rcases Nat.eq_zero_or_pos xs.length with h0 | h0
  · have : xs = [] := List.eq_nil_of_length_eq_zero h0
    subst this
    clear h0
    go_enter Try.func89, Try.ntmps89
    go_wp2_with fail
    refine wp_loop_rounds 1 ?_
    rw [rounds_succ]
    go_wp2_with fail
    go_ret
    exact ⟨rfl, 0, rfl⟩
  · obtain ⟨b, off, rfl, _, hc⟩ := hc h0
    have HC := Lib.hid hc
    clear hc
    generalize hP : (fun x => !least (cl .f32 x)) = P
    have hp : ∀ x w, Calls Try.prog 97 #[.float .f32 x] w fun e w' => e = .returned (.bool (P x)) ∧ ∃ n, w' = w.drewN n := by subst hP; exact c_areLeast1
    clear hP
    have HP := Lib.hid hp
    clear hp
    go_enter Try.func89, Try.ntmps89
    go_wp2_with fail
    go_loopw [8] (fun i wr => ∃ k : Nat, k ≤ xs.length ∧ i = .int .i64 k ∧ Hid (∀ j x, j < k → xs[j]? = some x → P x = false) ∧ ∃ m, wr = w.drewN m) (fun i _ => xs.length - (intOf i).toNat)
    case atStart => exact ⟨0, Nat.zero_le _, rfl, fun _ _ h => absurd h (by omega), 0, rfl⟩
    case round =>
      obtain ⟨k, hk, rfl, hno, m, rfl⟩ := hrel
      by_cases hlt : k < xs.length
      · have hcell := HC.out k xs[k] (List.getElem?_eq_getElem hlt)
        cases hpx : P xs[k]
        · have HX := Lib.hid hpx
          go_wp2_with ((go_at_call 97; refine (HP.out _ _).mono ?_; rintro e w' ⟨rfl, nq, rfl⟩))
          go_roundw
          case rel => exact ⟨k + 1, by omega, by go_num, fun j x hj hx' => (by
            rcases Nat.lt_or_ge j k with h | h
            · exact hno.out j x h hx'
            · obtain rfl : j = k := by omega
              rw [List.getElem?_eq_getElem hlt] at hx'
              injection hx' with hx'
              rw [← hx']
              exact HX.out), _, rfl⟩
          case measure => simp [intOf]; omega
        · have HX := Lib.hid hpx
          go_wp2_with ((go_at_call 97; refine (HP.out _ _).mono ?_; rintro e w' ⟨rfl, nq, rfl⟩))
          go_ret
          exact ⟨by rw [idx_at hno.out hlt HX.out]; rfl, _, rfl⟩
      · have HE := Lib.hid (idx_none (p := P) (xs := xs) fun x hx => (by
          obtain ⟨j, hj, rfl⟩ := List.getElem_of_mem hx
          exact hno.out j _ (by omega) (List.getElem?_eq_getElem hj)))
        clear hno
        go_wp2_with fail
        go_ret
        exact ⟨by rw [HE.out]; rfl, _, rfl⟩

theorem c_ContainsFunc3 (A : Option Addr) (cap B : Nat) (xs : List Nat) (w : World) (h : Fl w B A xs.length xs) (hm : xs.length ≤ maxLen) :
    Calls Try.prog 76 #[.slice A xs.length cap, .func (.func 97) #[] #[]] w fun e w' => e = .returned (.bool (xs.any (fun x => !least (cl .f32 x)))) ∧ ∃ n, w' = w.drewN n := by
  have HF := Lib.hid h
  clear h
  go_enter Try.func76, Try.ntmps76
  go_wp2_with (go_at_call 89; refine (c_IndexFunc3 _ _ B _ _ HF.out hm).mono ?_; rintro e w' ⟨rfl, nq, rfl⟩)
  go_ret
  exact ⟨by rw [← idx_any]; rfl, _, rfl⟩

theorem c_IndexFunc4 (A : Option Addr) (cap B : Nat) (xs : List Nat) (w : World) (h : Fl w B A xs.length xs) (hm : xs.length ≤ maxLen) :
    Calls Try.prog 89 #[.slice A xs.length cap, .func (.func 78) #[] #[]] w fun e w' => e = .returned (.int .i64 (idx (fun x => !fromTo (cl .f32 x) (cl .f32 3351465984) (cl .f32 1203982336)) xs)) ∧ ∃ n, w' = w.drewN n := by
  unfold maxLen at hm
  obtain ⟨_, hc⟩ := h
  rcases Nat.eq_zero_or_pos xs.length with h0 | h0
  · have : xs = [] := List.eq_nil_of_length_eq_zero h0
    subst this
    clear h0
    go_enter Try.func89, Try.ntmps89
    go_wp2_with fail
    refine wp_loop_rounds 1 ?_
    rw [rounds_succ]
    go_wp2_with fail
    go_ret
    exact ⟨rfl, 0, rfl⟩
  · obtain ⟨b, off, rfl, _, hc⟩ := hc h0
    have HC := Lib.hid hc
    clear hc
    generalize hP : (fun x => !fromTo (cl .f32 x) (cl .f32 3351465984) (cl .f32 1203982336)) = P
    have hp : ∀ x w, Calls Try.prog 78 #[.float .f32 x] w fun e w' => e = .returned (.bool (P x)) ∧ ∃ n, w' = w.drewN n := by subst hP; exact c_ValidFarm1
    clear hP
    have HP := Lib.hid hp
    clear hp
    go_enter Try.func89, Try.ntmps89
    go_wp2_with fail
    go_loopw [8] (fun i wr => ∃ k : Nat, k ≤ xs.length ∧ i = .int .i64 k ∧ Hid (∀ j x, j < k → xs[j]? = some x → P x = false) ∧ ∃ m, wr = w.drewN m) (fun i _ => xs.length - (intOf i).toNat)
    case atStart => exact ⟨0, Nat.zero_le _, rfl, fun _ _ h => absurd h (by omega), 0, rfl⟩
    case round =>
      obtain ⟨k, hk, rfl, hno, m, rfl⟩ := hrel
      by_cases hlt : k < xs.length
      · have hcell := HC.out k xs[k] (List.getElem?_eq_getElem hlt)
        cases hpx : P xs[k]
        · have HX := Lib.hid hpx
          go_wp2_with ((go_at_call 78; refine (HP.out _ _).mono ?_; rintro e w' ⟨rfl, nq, rfl⟩))
          go_roundw
          case rel => exact ⟨k + 1, by omega, by go_num, fun j x hj hx' => (by
            rcases Nat.lt_or_ge j k with h | h
            · exact hno.out j x h hx'
            · obtain rfl : j = k := by omega
              rw [List.getElem?_eq_getElem hlt] at hx'
              injection hx' with hx'
              rw [← hx']
              exact HX.out), _, rfl⟩
          case measure => simp [intOf]; omega
        · have HX := Lib.hid hpx
          go_wp2_with ((go_at_call 78; refine (HP.out _ _).mono ?_; rintro e w' ⟨rfl, nq, rfl⟩))
          go_ret
          exact ⟨by rw [idx_at hno.out hlt HX.out]; rfl, _, rfl⟩
      · have HE := Lib.hid (idx_none (p := P) (xs := xs) fun x hx => (by
          obtain ⟨j, hj, rfl⟩ := List.getElem_of_mem hx
          exact hno.out j _ (by omega) (List.getElem?_eq_getElem hj)))
        clear hno
        go_wp2_with fail
        go_ret
        exact ⟨by rw [HE.out]; rfl, _, rfl⟩

theorem c_ContainsFunc4 (A : Option Addr) (cap B : Nat) (xs : List Nat) (w : World) (h : Fl w B A xs.length xs) (hm : xs.length ≤ maxLen) :
    Calls Try.prog 76 #[.slice A xs.length cap, .func (.func 78) #[] #[]] w fun e w' => e = .returned (.bool (xs.any (fun x => !fromTo (cl .f32 x) (cl .f32 3351465984) (cl .f32 1203982336)))) ∧ ∃ n, w' = w.drewN n := by
  have HF := Lib.hid h
  clear h
  go_enter Try.func76, Try.ntmps76
  go_wp2_with (go_at_call 89; refine (c_IndexFunc4 _ _ B _ _ HF.out hm).mono ?_; rintro e w' ⟨rfl, nq, rfl⟩)
  go_ret
  exact ⟨by rw [← idx_any]; rfl, _, rfl⟩

theorem c_impl.areFinite (A : Option Addr) (n cap B : Nat) (xs : List Nat) (w : World) (h : Fl w B A n xs) (hm : n ≤ maxLen) :
    Calls Try.prog 59 #[.slice A n cap] w fun e w' => e = .returned (.bool (xs.all fun x => fin (cl .f32 x))) ∧ ∃ n, w' = w.drewN n := by
  obtain rfl := h.1
  have HF := Lib.hid h
  clear h
  go_enter Try.func59, Try.ntmps59
  go_wp2_with (go_at_call 76; refine (c_ContainsFunc2 _ _ B _ _ HF.out hm).mono ?_; rintro e w' ⟨rfl, nq, rfl⟩)
  go_ret
  exact ⟨by rw [List.all_eq_not_any_not]; rfl, _, rfl⟩

theorem c_impl.areLeast (A : Option Addr) (n cap B : Nat) (xs : List Nat) (w : World) (h : Fl w B A n xs) (hm : n ≤ maxLen) :
    Calls Try.prog 87 #[.slice A n cap] w fun e w' => e = .returned (.bool (xs.all fun x => least (cl .f32 x))) ∧ ∃ n, w' = w.drewN n := by
  obtain rfl := h.1
  have HF := Lib.hid h
  clear h
  go_enter Try.func87, Try.ntmps87
  go_wp2_with (go_at_call 76; refine (c_ContainsFunc3 _ _ B _ _ HF.out hm).mono ?_; rintro e w' ⟨rfl, nq, rfl⟩)
  go_ret
  exact ⟨by rw [List.all_eq_not_any_not]; rfl, _, rfl⟩


end Go.Proofs.Ytlakmogclcpgdaa

/-
  CONTRACTS: floors; angles without whole turns.
-/
namespace Go.Flt
open Go Ieee

section
variable {P : Program} (w : World)
theorem run_narrow (src dst : TypeId) (x : Nat) (hs : (P.underlying src).isSome = true) (hd : P.underlying dst = some (.float .f32)) (hx : isNum (cl .f64 x) = true) (hr : isNum (nar (cl .f64 x)) = true) :
    ∃ z, (convert src dst (.float .f64 x)).run P w = .ok (.float .f32 z) w ∧ cl .f32 z = nar (cl .f64 x) ∧ (Lit.float .f32 z).wf = true := by
  obtain ⟨u, hs'⟩ := Option.isSome_iff_exists.1 hs
  have hrun : (convert src dst (.float .f64 x)).run P w = (Conv.floatToFloat .f64 x .f32).run P w := by
    cases u <;> simp [convert, run_underlying hs', run_underlying hd]
  rw [hrun]
  unfold Conv.floatToFloat
  rw [if_neg (by decide)]
  rcases cl_or .f64 x with ⟨s, t, _, h'⟩ | ⟨h', _⟩
  · rw [h'] at hx; cases hx
  · rw [h'] at hx hr ⊢
    cases hd' : FloatKind.f64.decode x with
    | nan s t => rw [hd'] at hx; cases hx
    | infinity s => rw [hd'] at hx; cases hx
    | number s m e =>
      rw [hd'] at hr
      have hnar : nar (.number s m e) = cl .f32 (FloatKind.f32.encode (.number s m e)) := rfl
      rw [hnar] at hr ⊢
      refine ⟨FloatKind.f32.encode (.number s m e), ?_, rfl, encode_wf .f32 (.number s m e)⟩
      have : (FloatKind.f32.decode (FloatKind.f32.encode (.number s m e))).isInfinity = false := by
        rcases cl_or .f32 (FloatKind.f32.encode (.number s m e)) with ⟨s', t', h1, h2⟩ | ⟨h1, _⟩
        · rw [h1]; rfl
        · rw [← h1]
          cases hc : cl .f32 (FloatKind.f32.encode (.number s m e)) with
          | number => rfl
          | nan => rfl
          | infinity => rw [hc] at hr; cases hr
      simp only [this, Bool.false_eq_true, if_false]
      rfl
end
section
variable {P : Program} {o : Oper} {a : Act} {K : Act → World → Prop} {Q : Exit → Act → World → Prop} {w : World}
theorem upon_narrow (src dst : TypeId) (x : Nat) (hs : (P.underlying src).isSome = true) (hd : P.underlying dst = some (.float .f32)) (hx : isNum (cl .f64 x) = true) (hr : isNum (nar (cl .f64 x)) = true)
    (h : ∀ z, cl .f32 z = nar (cl .f64 x) → (Lit.float .f32 z).wf = true → K (a.put o.dst (.float .f32 z)) w) :
    Oper.upon P o a K Q (((convert src dst (.float .f64 x)).run P w).andThen fun v w' => .ok (.value v) w') := by
  obtain ⟨z, h1, h2, h3⟩ := run_narrow (P := P) w src dst x hs hd hx hr
  rw [h1]
  exact h z h2 h3
end
end Go.Flt

namespace Go.Proofs.Ytlakmogclcpgdaa
open Go.RowKit Go.Flt
set_option linter.unusedVariables false
set_option maxRecDepth 100000
set_option linter.unusedSimpArgs false

/-- An angle from -1/2 to less than 1/2. -/
def wrp (x : Ieee.Datum) : Ieee.Datum :=
  if (flt (cl .f32 1056964608) (nar (left (wid x))) || feq (nar (left (wid x))) (cl .f32 1056964608)) then cl .f32 3204448256 else nar (left (wid x))

theorem fits_mhalf : fits 3204448256 := rfl

theorem c_l01Narrow (z : Nat) (w : World) (h1 : isNum (cl .f64 z) = true) (h2 : isNum (nar (cl .f64 z)) = true) : Calls Try.prog 91 #[.float .f64 z] w (RetF (nar (cl .f64 z)) (Drawn w)) := by
  have H1 := Lib.hid h1
  have H2 := Lib.hid h2
  clear h1 h2
  go_enter Try.func91, Try.ntmps91
  go_wp2_with (refine upon_narrow _ _ _ some_f64 Try.underlying22 (H1.out ) ( H2.out) ?_; intro z hz hzw)
  go_ret
  exact ⟨_, rfl, by assumption, by assumption, by (first | exact ⟨_, rfl⟩ | exact ⟨0, rfl⟩ | exact ⟨_, World.drewN_drewN _ _ _⟩ | (simp only [World.drewN_drewN]; exact ⟨_, rfl⟩))⟩

end Go.Proofs.Ytlakmogclcpgdaa

/-
  CONTRACTS: square roots, narrowed.
-/
namespace Go.Flt
open Go Ieee

/-- The square root in 64 bits. -/
def sqD (d : Datum) : Datum := rnd .f64 (d.root 54)

theorem rootFrom_lt (n : Nat) : ∀ t r, Datum.rootFrom n t r < r + 2 ^ t
  | 0, r => by simp [Datum.rootFrom]
  | t + 1, r => by
    have e : (1 <<< t : Nat) = 2 ^ t := by simp [Nat.shiftLeft_eq]
    have p : 2 ^ (t + 1) = 2 ^ t + 2 ^ t := by rw [Nat.pow_succ]; omega
    show Datum.rootFrom n t (if (r + 1 <<< t) * (r + 1 <<< t) ≤ n then r + 1 <<< t else r) < r + 2 ^ (t + 1)
    rw [e, p]
    have h := rootFrom_lt n t (if (r + 2 ^ t) * (r + 2 ^ t) ≤ n then r + 2 ^ t else r)
    generalize (2 ^ t : Nat) = P at *
    by_cases c : (r + P) * (r + P) ≤ n
    · rw [if_pos c] at h ⊢; omega
    · rw [if_neg c] at h ⊢; omega

theorem root_num (m : Nat) (i : Int) (hm : m ≠ 0) (hi : -1074 ≤ i) (hb : (m.log2 : Int) + i ≤ 130) :
    ∃ (q T : Nat) (j : Int), (Datum.number false m i).root 54 = some (.number false q j) ∧ -1074 ≤ j ∧ q < 2 ^ T ∧ (T : Int) + j ≤ 70 := by
  unfold Datum.root
  simp only [hm, if_false, Bool.false_eq_true]
  obtain ⟨M, hM⟩ : ∃ M, M = 2 * 54 - m.log2 + ((i - ((2 * 54 - m.log2 : Nat) : Int)) % 2).toNat := ⟨_, rfl⟩
  rw [← hM]
  have hM1 : M ≤ 109 := by omega
  have hlog : (m <<< M).log2 = m.log2 + M := by rw [Nat.shiftLeft_eq, log2_shift m M hm]
  have hr := rootFrom_lt (m <<< M) ((m <<< M).log2 / 2 + 1) 0
  rw [hlog] at hr ⊢
  generalize Datum.rootFrom (m <<< M) ((m.log2 + M) / 2 + 1) 0 = W at hr ⊢
  refine ⟨_, (m.log2 + M) / 2 + 2, _, rfl, by omega, ?_, by omega⟩
  have p : 2 ^ ((m.log2 + M) / 2 + 2) = 2 * 2 ^ ((m.log2 + M) / 2 + 1) := by rw [Nat.pow_succ]; omega
  rw [p]
  have hb : (W * W != m <<< M).toNat ≤ 1 := by cases (W * W != m <<< M) <;> simp
  omega

theorem tw_log {m : Nat} (hm : m ≠ 0) : tw m.log2 ≤ m := Nat.log2_self_le hm

/-- A square root of a number of 32 bits is none too great for 32 bits. -/
theorem sq_ok (b : Nat) (h : isNum (sqD (wid (cl .f32 b))) = true) : isNum (nar (sqD (wid (cl .f32 b)))) = true := by
  have key : ∀ d : Datum, isNum d = true → place (-1074) d → 0 ≤ iv (-1074) d → iv (-1074) d ≤ (tw 1144 : Int) → isNum (nar (rd .f64 d)) = true := by
    intro d nd pd h0 h1
    have nlo : isNum (cl .f64 14404763408144531456) = true := by rw [c_lo]; rfl
    have nhi : isNum (cl .f64 5181391371289755648) = true := by rw [c_hi]; rfl
    have ilo : iv (-1074) (cl .f64 14404763408144531456) = -(6755399441055744 * tw 1149 : Int) := by rw [c_lo, iv_of true _ 75 1149 (by omega)]; simp
    have ihi : iv (-1074) (cl .f64 5181391371289755648) = (6755399441055744 * tw 1149 : Int) := by rw [c_hi, iv_of false _ 75 1149 (by omega)]; simp
    have t1 : (tw 1144 : Int) ≤ (tw 1149 : Int) := by have := tw_le (a := 1144) (b := 1149) (by omega); omega
    have t2 : (0 : Int) < (tw 1149 : Int) := by have := tw_pos 1149; omega
    obtain ⟨nD, d1, d2⟩ := rd_between .f64 nd nlo nhi ((leF_iv nlo nd (place64 _) pd).2 (by rw [ilo]; omega)) ((leF_iv nd nhi pd (place64 _)).2 (by rw [ihi]; omega))
    have pD : place (-1074) (rd .f64 d) := place64 _
    have d1 := (leF_iv nlo nD (place64 _) pD).1 d1
    have d2 := (leF_iv nD nhi pD (place64 _)).1 d2
    rw [nar_rd nD]
    have nlo32 : isNum (cl .f32 4282384384) = true := by rw [c_lo32]; rfl
    have nhi32 : isNum (cl .f32 2134900736) = true := by rw [c_hi32]; rfl
    have ilo32 : iv (-1074) (cl .f32 4282384384) = -(12582912 * tw 1178 : Int) := by rw [c_lo32, iv_of true _ 104 1178 (by omega)]; simp
    have ihi32 : iv (-1074) (cl .f32 2134900736) = (12582912 * tw 1178 : Int) := by rw [c_hi32, iv_of false _ 104 1178 (by omega)]; simp
    have tt : tw 1178 = tw 29 * tw 1149 := tw_add 29 1149
    have t29 : tw 29 = 536870912 := by decide
    rw [t29] at tt
    exact (rd_between .f32 nD nlo32 nhi32 ((leF_iv nlo32 nD (place32 _) pD).2 (by rw [ilo32]; omega)) ((leF_iv nD nhi32 pD (place32 _)).2 (by rw [ihi32]; omega))).1
  cases hn : isNum (cl .f32 b)
  · exfalso
    cases hc : cl .f32 b with
    | number s m e => rw [hc] at hn; cases hn
    | nan s t => rw [hc] at h; cases h
    | infinity s =>
      rw [hc] at h
      have e : wid (.infinity s) = .infinity s := by cases s <;> decide +kernel
      rw [e] at h
      cases s <;> revert h <;> decide +kernel
  · have hb := wid_bound b hn
    have hw := wid_isNum b hn
    obtain ⟨w64, hw64⟩ := wid_fix b hn
    have hp : place (-1074) (wid (cl .f32 b)) := by rw [hw64]; exact place64 _
    generalize wid (cl .f32 b) = W at h hb hw hp ⊢
    cases W <;> simp only [isNum] at hw <;> first | (cases hw; done) | skip
    rename_i s m i
    by_cases hm : m = 0
    · subst hm
      have e : sqD (.number s 0 i) = rd .f64 (.number s 0 i) := by unfold sqD Datum.root; simp [rnd, rd]
      rw [e]
      refine key _ rfl hp ?_ ?_
      · simp [iv, signed]
      · have := tw_pos 1144; simp [iv, signed]
    · cases s
      · have hi : -1074 ≤ i := hp
        obtain ⟨k, hk⟩ : ∃ k : Nat, i + 1074 = k := ⟨(i + 1074).toNat, by omega⟩
        rw [iv_of false m i k hk] at hb
        have hb1 : m * tw k < tw 1202 := by have := tw_pos 1178; have := hb.1; simp at this; omega
        have hlog : m.log2 + k < 1202 := by
          refine Nat.lt_of_not_le fun hc => ?_
          have a1 := Nat.mul_le_mul_right (tw k) (tw_log hm)
          rw [← tw_add] at a1
          have a2 := tw_le hc
          omega
        obtain ⟨q, T, j, hr, hj, hq, hT⟩ := root_num m i hm hi (by omega)
        have e : sqD (.number false m i) = rd .f64 (.number false q j) := by unfold sqD; rw [hr]; rfl
        rw [e]
        obtain ⟨kj, hkj⟩ : ∃ kj : Nat, j + 1074 = kj := ⟨(j + 1074).toNat, by omega⟩
        refine key _ rfl hj ?_ ?_
        · rw [iv_of false q j kj hkj]; simp; exact Int.mul_nonneg (Int.natCast_nonneg _) (Int.natCast_nonneg _)
        · rw [iv_of false q j kj hkj]
          have a1 : q * tw kj ≤ tw T * tw kj := Nat.mul_le_mul_right _ (Nat.le_of_lt hq)
          rw [← tw_add] at a1
          have a2 := tw_le (a := T + kj) (b := 1144) (by omega)
          simp only [Bool.false_eq_true, if_false]
          omega
      · exfalso
        unfold sqD Datum.root at h
        simp [hm, rnd] at h
        cases h

section
variable {P : Program} (w : World)
theorem run_narrow_any (src dst : TypeId) (x : Nat) (hs : (P.underlying src).isSome = true) (hd : P.underlying dst = some (.float .f32)) (hr : isNum (cl .f64 x) = true → isNum (nar (cl .f64 x)) = true) :
    ∃ z n, (convert src dst (.float .f64 x)).run P w = .ok (.float .f32 z) (w.drewN n) ∧ cl .f32 z = nar (cl .f64 x) ∧ (Lit.float .f32 z).wf = true := by
  cases hn : isNum (cl .f64 x)
  · obtain ⟨u, hs'⟩ := Option.isSome_iff_exists.1 hs
    have hrun : (convert src dst (.float .f64 x)).run P w = (Conv.floatToFloat .f64 x .f32).run P w := by
      cases u <;> simp [convert, run_underlying hs', run_underlying hd]
    rw [hrun]
    unfold Conv.floatToFloat
    rw [if_neg (by decide)]
    cases hd' : FloatKind.f64.decode x with
    | nan s t =>
      obtain ⟨r, h1, h2, h3⟩ := run_nanConv (P := P) w .f32 x
      refine ⟨r, 1, ?_, ?_, h3⟩
      · simp only [Sem.run_bind, h1, Result.andThen_ok, Sem.run_pure]
      · have e : cl .f64 x = NaN := by unfold cl; rw [hd']
        rw [h2, e]; rfl
    | infinity s =>
      refine ⟨FloatKind.f32.encode (.infinity s), 0, rfl, ?_, encode_wf .f32 (.infinity s)⟩
      have e : cl .f64 x = .infinity s := by unfold cl; rw [hd']
      rw [e]; rfl
    | number s m e =>
      have e : cl .f64 x = .number s m e := by unfold cl; rw [hd']
      rw [e] at hn; cases hn
  · obtain ⟨z, h1, h2, h3⟩ := run_narrow (P := P) w src dst x hs hd hn (hr hn)
    exact ⟨z, 0, h1, h2, h3⟩
end
section
variable {P : Program} {o : Oper} {a : Act} {K : Act → World → Prop} {Q : Exit → Act → World → Prop} {w : World}
theorem upon_narrow_any (src dst : TypeId) (x : Nat) (hs : (P.underlying src).isSome = true) (hd : P.underlying dst = some (.float .f32)) (hr : isNum (cl .f64 x) = true → isNum (nar (cl .f64 x)) = true)
    (h : ∀ z n, cl .f32 z = nar (cl .f64 x) → (Lit.float .f32 z).wf = true → K (a.put o.dst (.float .f32 z)) (w.drewN n)) :
    Oper.upon P o a K Q (((convert src dst (.float .f64 x)).run P w).andThen fun v w' => .ok (.value v) w') := by
  obtain ⟨z, n, h1, h2, h3⟩ := run_narrow_any (P := P) w src dst x hs hd hr
  rw [h1]
  exact h z n h2 h3
end

end Go.Flt

namespace Go.Proofs.Ytlakmogclcpgdaa
open Go.RowKit Go.Flt
set_option linter.unusedVariables false
set_option maxRecDepth 100000
set_option linter.unusedSimpArgs false

theorem ext_sqrt (z : Nat) (w : World) : ∃ r n, (callFunc 92 #[.float .f64 z]).run Try.prog w = .ok (.value (.float .f64 r)) (w.drewN n) ∧ cl .f64 r = sqD (cl .f64 z) ∧ (Lit.float .f64 r).wf = true := by
  rw [run_callFunc_extern Try.func92 (by kernel_rfl) (by kernel_rfl) (by kernel_rfl) (show Extern.find Try.f92 = some Extern.MathSqrt.sqrt by kernel_rfl)]
  have hsq : FloatKind.f64.format.sqrt z = ((FloatKind.f64.decode z).root 54).map FloatKind.f64.encode := rfl
  have hcl : sqD (cl .f64 z) = rnd .f64 ((FloatKind.f64.decode z).root 54) := by
    rcases cl_or .f64 z with ⟨s, t, h1, h2⟩ | ⟨h1, _⟩
    · rw [h1, h2]; rfl
    · rw [h1]; rfl
  have hS : Extern.MathSqrt.sqrt #[.float .f64 z] = (match FloatKind.f64.format.sqrt z with
    | some r => pure (.float .f64 r)
    | none => do pure (.float .f64 (← choose (.nanBits .f64 z z)))) := rfl
  rw [hS, hcl, hsq]
  cases (FloatKind.f64.decode z).root 54 with
  | some d => exact ⟨FloatKind.f64.encode d, 0, rfl, rfl, encode_wf .f64 d⟩
  | none =>
    obtain ⟨r, h1, h2, h3⟩ := run_nanBits (P := Try.prog) w .f64 z z
    refine ⟨r, 1, ?_, h2, h3⟩
    simp only [Option.map_none, Sem.run_bind, h1, Result.andThen_ok, Sem.run_pure]

theorem c_Sqrt (z : Nat) (w : World) : Calls Try.prog 81 #[.float .f64 z] w fun e w' => ∃ r, e = .returned (.float .f64 r) ∧ cl .f64 r = sqD (cl .f64 z) ∧ (Lit.float .f64 r).wf = true ∧ ∃ n, w' = w.drewN n := by
  obtain ⟨r, n, h1, h2, h3⟩ := ext_sqrt z w
  have H2 := Lib.hid h2
  have H3 := Lib.hid h3
  clear h2 h3
  go_enter Try.func81, Try.ntmps81
  go_wp2_with fail
  go_ret
  exact ⟨_, rfl, H2.out, H3.out, _, rfl⟩

/-- The square root of a number of 32 bits. -/
def rootD (x : Ieee.Datum) : Ieee.Datum := nar (sqD (wid x))

theorem c_RootNumber (x : Nat) (w : World) : Calls Try.prog 55 #[.float .f32 x] w (RetF (rootD (cl .f32 x)) (Drawn w)) := by
  have HO := Lib.hid (sq_ok x)
  go_enter Try.func55, Try.ntmps55
  go_wp2_with (first | (refine upon_widen _ _ _ some_f32 Try.underlying43 ?_; intro z n hz hzw) | (go_at_call 81; refine (c_Sqrt _ _).mono ?_; rintro e w' ⟨r, rfl, hr, hrf, nq, rfl⟩) | (refine upon_narrow_any _ _ _ some_f64 Try.underlying22 (by simp only [*]; exact HO.out) ?_; intro z2 n2 hz2 hzw2))
  go_ret
  exact ⟨_, rfl, by unfold rootD; simp only [*], by assumption, by (first | exact ⟨_, rfl⟩ | exact ⟨0, rfl⟩ | exact ⟨_, World.drewN_drewN _ _ _⟩ | (simp only [World.drewN_drewN]; exact ⟨_, rfl⟩))⟩

theorem c_l01NarrowA (z : Nat) (w : World) (h : isNum (cl .f64 z) = true → isNum (nar (cl .f64 z)) = true) : Calls Try.prog 91 #[.float .f64 z] w (RetF (nar (cl .f64 z)) (Drawn w)) := by
  have HO := Lib.hid h
  clear h
  go_enter Try.func91, Try.ntmps91
  go_wp2_with (refine upon_narrow_any _ _ _ some_f64 Try.underlying22 HO.out ?_; intro z2 n2 hz2 hzw2)
  go_ret
  exact ⟨_, rfl, by assumption, by assumption, by (first | exact ⟨_, rfl⟩ | exact ⟨0, rfl⟩ | exact ⟨_, World.drewN_drewN _ _ _⟩ | (simp only [World.drewN_drewN]; exact ⟨_, rfl⟩))⟩

theorem c_l01Sqrt (x : Nat) (w : World) : Calls Try.prog 80 #[.float .f32 x] w (RetF (rootD (cl .f32 x)) (Drawn w)) := by
  have HO := Lib.hid (sq_ok x)
  go_enter Try.func80, Try.ntmps80
  go_wp2_with (first | (refine upon_widen _ _ _ some_f32 Try.underlying43 ?_; intro z n hz hzw) | (go_at_call 81; refine (c_Sqrt _ _).mono ?_; rintro e w' ⟨r, rfl, hr, hrf, nq, rfl⟩) | (go_at_call 91; refine (c_l01NarrowA _ _ (by simp only [*]; exact HO.out)).mono ?_; rintro e w' ⟨r2, rfl, hr2, hrf2, nq2, rfl⟩))
  go_ret
  exact ⟨_, rfl, by unfold rootD; simp only [*], by assumption, by (first | exact ⟨_, rfl⟩ | exact ⟨0, rfl⟩ | exact ⟨_, World.drewN_drewN _ _ _⟩ | (simp only [World.drewN_drewN]; exact ⟨_, rfl⟩))⟩

end Go.Proofs.Ytlakmogclcpgdaa

