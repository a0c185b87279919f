/-
  CONTRACTS: slices of floats that are looked through.
-/
import Derived.Lib.Hide
import Derived.Test.YtkippcjifikegaaNum
namespace Go.Proofs.Ytkippcjifikegaa
open Go.RowKit Go.Flt
set_option linter.unusedVariables false
set_option maxRecDepth 100000
set_option linter.unusedSimpArgs false

theorem bcell {W w1 : World} (hb : Below W.heap.size W w1) : (∀ b o, b < W.heap.size → w1.cell? ⟨b, o, none⟩ = W.cell? ⟨b, o, none⟩) ∧ (∀ b o, b < W.heap.size → w1.frozen? ⟨b, o, none⟩ = W.frozen? ⟨b, o, none⟩) :=
  ⟨fun b o h => hb.cell (p := ⟨b, o, none⟩) h, fun b o h => hb.frozen (p := ⟨b, o, none⟩) h⟩

theorem below_draws {B : Nat} {w w' : World} (h : Below B w w') (n : Nat) : Below B w (w'.drewN n) := ⟨h.os, h.tape, h.output, h.size, h.block⟩

theorem below_then {B : Nat} {w W w' : World} (hw : Below W.heap.size W w') (hB : B ≤ W.heap.size) (h : Below B w W) : Below B w w' := h.trans (hw.mono hB)

@[go_sem] theorem setCell_drewN' (w : World) (n : Nat) (a : Addr) (v : Value) : (w.drewN n).setCell a v = (w.setCell a v).drewN n := rfl

/-! ### What a call has made lies behind what was there: the world before it, put out by some objects -/

def wext (w : World) (os : Array Obj) (n : Nat) : World := { w with heap := w.heap ++ os, drawn := n }

theorem below_ext {w w' : World} (h : Below w.heap.size w w') : ∃ os n, w' = wext w os n := by
  refine ⟨w'.heap.extract w.heap.size, w'.drawn, ?_⟩
  have hh : w'.heap = w.heap ++ w'.heap.extract w.heap.size := by
    apply Array.ext_getElem?
    intro i
    by_cases hi : i < w.heap.size
    · rw [Array.getElem?_append_left hi]
      exact h.block i hi
    · rw [Array.getElem?_append_right (by omega), Array.getElem?_extract]
      split
      · congr 1; omega
      · rw [Array.getElem?_eq_none]; omega
  obtain ⟨hp, tp, dr, os, out⟩ := w'
  obtain ⟨h1, h2, h3, _, _⟩ := h
  simp only [wext] at *
  subst h1 h2 h3
  rw [← hh]

theorem ext_below {B : Nat} {w w' : World} (h : Below B w w') (hB : B ≤ w'.heap.size) (os : Array Obj) (n : Nat) : Below B w (wext w' os n) :=
  ⟨h.os, h.tape, h.output, by simp [wext]; have := h.size; omega, fun r hr => by
    have h1 : (wext w' os n).heap[r]? = w'.heap[r]? := Array.getElem?_append_left (by omega)
    rw [h1]
    exact h.block r hr⟩

@[go_sem] theorem ext_drewN (w : World) (os : Array Obj) (n k : Nat) : (wext w os n).drewN k = wext w os (n + k) := rfl

@[go_sem] theorem ext_drew (w : World) (os : Array Obj) (n : Nat) : (wext w os n).drew = wext w os (n + 1) := rfl

@[go_sem] theorem drewN_ext (w : World) (os : Array Obj) (n k : Nat) : wext (w.drewN k) os n = wext w os n := rfl

@[go_sem] theorem drew_ext (w : World) (os : Array Obj) (n : Nat) : wext w.drew os n = wext w os n := rfl

@[go_sem] theorem size_ext (w : World) (os : Array Obj) (n : Nat) : (wext w os n).heap.size = w.heap.size + os.size := by simp [wext]

@[go_sem] theorem cell_ext (w : World) (os : Array Obj) (n b i : Nat) (h : b < w.heap.size) : (wext w os n).cell? ⟨b, i, none⟩ = w.cell? ⟨b, i, none⟩ := by
  simp [World.cell?, wext, Array.getElem?_append_left h]

@[go_sem] theorem frozen_ext (w : World) (os : Array Obj) (n b i : Nat) (h : b < w.heap.size) : (wext w os n).frozen? ⟨b, i, none⟩ = w.frozen? ⟨b, i, none⟩ := by
  simp [World.frozen?, wext, Array.getElem?_append_left h]

@[go_sem] theorem set_ext (w : World) (os : Array Obj) (n b i : Nat) (v : Value) (h : b < w.heap.size) : (wext w os n).setCell ⟨b, i, none⟩ v = wext (w.setCell ⟨b, i, none⟩ v) os n := by
  have : ∀ f : Obj → Obj, (w.heap ++ os).modify b f = w.heap.modify b f ++ os := fun f => by
    apply Array.ext_getElem?
    intro j
    simp only [Array.getElem?_modify, Array.getElem?_append, Array.size_modify]
    by_cases hj : j < w.heap.size
    · simp [hj]
    · simp [hj]
      intro hb; omega
  simp only [World.setCell, wext, this]

theorem fits_zero : fits 0 := rfl

/-! ### What a call hands back: said behind a name, so that the walk does not take it apart -/
def RetF (d : Ieee.Datum) (R : World → Prop) (e : Ending) (w' : World) : Prop := ∃ r, e = .returned (.float .f32 r) ∧ cl .f32 r = d ∧ fits r ∧ R w'

def RetFB (d : Ieee.Datum) (b : Bool) (R : World → Prop) (e : Ending) (w' : World) : Prop := ∃ r, e = .returned (.tuple #[.float .f32 r, .bool b]) ∧ cl .f32 r = d ∧ fits r ∧ R w'
/-- A number that counts where it is finite and all is well; else 0. -/
def num (ok : Bool) (x : Ieee.Datum) : Ieee.Datum := if ok && fin x then x else cl .f32 0
/-- A number, if it is finite; else 0. -/
def chkW (x : Nat) : Nat := if fin (cl .f32 x) then x else 0

def chk (x : Ieee.Datum) : Ieee.Datum := if fin x then x else cl .f32 0

@[go_sem] theorem cl_chkW (x : Nat) : cl .f32 (chkW x) = chk (cl .f32 x) := by unfold chkW chk; split <;> rfl

theorem fits_chkW {x : Nat} (h : fits x) : fits (chkW x) := by unfold chkW; split; exact h; exact fits_zero

theorem drawn_trans {a b c : World} (h : Drawn a b) (k : Drawn b c) : Drawn a c := by
  obtain ⟨n, rfl⟩ := h
  obtain ⟨m, rfl⟩ := k
  exact ⟨n + m, World.drewN_drewN _ _ _⟩

theorem grew_trans {a b c : World} (h : Grew a b) (k : Grew b c) : Grew a c := Below.trans h (Below.mono k (Below.size h))

theorem grew_of_drawn {a b : World} (h : Drawn a b) : Grew a b := by
  obtain ⟨n, rfl⟩ := h
  exact ⟨rfl, rfl, rfl, Nat.le_refl _, fun _ _ => rfl⟩

/-- The slice '.slice A n _' holds the floats xs, below block B. -/
def Fl (w : World) (B : Nat) (A : Option Addr) (n : Nat) (xs : List Nat) : Prop :=
  xs.length = n ∧ (0 < n → ∃ b off, A = some ⟨b, off, none⟩ ∧ b < B ∧ ∀ i x, xs[i]? = some x → w.cell? ⟨b, off + i, none⟩ = some (.float .f32 x))

theorem Fl.keep {w w' : World} {B n : Nat} {A : Option Addr} {xs : List Nat} (h : Fl w B A n xs) (hk : ∀ b o, b < B → w'.cell? ⟨b, o, none⟩ = w.cell? ⟨b, o, none⟩) : Fl w' B A n xs :=
  ⟨h.1, fun hn => by
    obtain ⟨b, off, e, hb, hc⟩ := h.2 hn
    exact ⟨b, off, e, hb, fun i x hx => (hk _ _ hb).trans (hc i x hx)⟩⟩

theorem Fl.drewN {w : World} {B n : Nat} {A : Option Addr} {xs : List Nat} (h : Fl w B A n xs) (k : Nat) : Fl (w.drewN k) B A n xs := h

theorem Fl.below {w w' : World} {B n : Nat} {A : Option Addr} {xs : List Nat} (h : Fl w B A n xs) (hb : Below B w w') : Fl w' B A n xs := h.keep fun _ _ hp => hb.cell hp

theorem heap_push (w : World) (o : Obj) : (w.alloc o).heap = w.heap.push o := rfl

theorem heap_drew' (w : World) : w.drew.heap = w.heap := rfl

theorem fl_block {w : World} {b n K : Nat} {xs : List Nat} {t : TypeId} {fr : Nat × Nat} {cs : Array Value} (hcs : cs = (xs.map (Value.float .f32)).toArray) (hn : xs.length = n) (hK : b < K) (h : w.heap[b]? = some (.cells cs t fr)) :
    Fl w K (some ⟨b, 0, none⟩) n xs := by
  refine ⟨hn, fun _ => ⟨b, 0, rfl, hK, fun i x hx => ?_⟩⟩
  rw [Nat.zero_add, cell_of_row w b i cs t fr h, hcs]
  simp [hx]

theorem fl_new (W : World) (xs : List Nat) (b : Nat) (t : TypeId) (cs : Array Value) (hb : b = W.heap.size) (hcs : cs = (xs.map (Value.float .f32)).toArray) :
    Fl (W.alloc (.cells cs t)) (b + 1) (some ⟨b, 0, none⟩) xs.length xs := by
  subst hb
  subst hcs
  refine ⟨rfl, fun _ => ⟨_, 0, rfl, Nat.lt_succ_self _, fun i x hx => ?_⟩⟩
  rw [Nat.zero_add, cell_of_row (W.alloc _) W.heap.size i (xs.map (Value.float .f32)).toArray t (0, 0) (heap_alloc_new W _)]
  simp [hx]

/-- The first place at which p says yes; -1 where there is none. -/
def idx (p : Nat → Bool) : List Nat → Int
  | [] => -1
  | x :: xs => if p x then 0 else if idx p xs < 0 then -1 else idx p xs + 1

theorem idx_any (p : Nat → Bool) (xs : List Nat) : decide (0 ≤ idx p xs) = xs.any p := by
  have hge : ∀ xs : List Nat, -1 ≤ idx p xs := by
    intro xs
    induction xs with
    | nil => simp [idx]
    | cons x xs ih => unfold idx; split; omega; split <;> omega
  induction xs with
  | nil => simp [idx]
  | cons x xs ih =>
    unfold idx
    by_cases h : p x = true
    · simp [h]
    · by_cases h' : idx p xs < 0
      · have : xs.any p = false := by rw [← ih]; simpa using h'
        simp [h, h', this]
      · have : xs.any p = true := by rw [← ih]; simpa using h'
        simp [h, h', this]
        omega

theorem idx_at {p : Nat → Bool} {xs : List Nat} {k : Nat} (hno : ∀ j x, j < k → xs[j]? = some x → p x = false) (hk : k < xs.length) (hx : p xs[k] = true) : idx p xs = k := by
  induction xs generalizing k with
  | nil => simp at hk
  | cons y ys ih =>
    unfold idx
    cases k with
    | zero => simp at hx; simp [hx]
    | succ k =>
      have h0 := hno 0 y (by omega) rfl
      have := ih (k := k) (fun j x hj hx => hno (j + 1) x (by omega) (by simpa using hx)) (by simpa using hk) (by simpa using hx)
      simp [h0, this]
      omega

theorem idx_none {p : Nat → Bool} {xs : List Nat} (hno : ∀ x ∈ xs, p x = false) : idx p xs = -1 := by
  induction xs with
  | nil => rfl
  | cons y ys ih =>
    unfold idx
    rw [ih fun x hx => hno x (by simp [hx])]
    simp [hno y (by simp)]


theorem c_IndexFunc1 (A : Option Addr) (cap B : Nat) (xs : List Nat) (w : World) (h : Fl w B A xs.length xs) (hm : xs.length ≤ maxLen) :
    Calls Try.prog 81 #[.slice A xs.length cap, .func (.func 71) #[] #[]] w fun e w' => e = .returned (.int .i64 (idx (fun x => !fin (cl .f32 x) || fle (cl .f32 x) (cl .f32 0)) xs)) ∧ ∃ n, w' = w.drewN n := by
  unfold maxLen at hm
  obtain ⟨_, hc⟩ := h
  rcases Nat.eq_zero_or_pos xs.length with h0 | h0
  · have : xs = [] := List.eq_nil_of_length_eq_zero h0
    subst this
    clear h0
    go_enter Try.func81, Try.ntmps81
    go_wp2_with fail
    refine wp_loop_rounds 1 ?_
    rw [rounds_succ]
    go_wp2_with fail
    go_ret
    exact ⟨rfl, 0, rfl⟩
  · obtain ⟨b, off, rfl, _, hc⟩ := hc h0
    have HC := Lib.hid hc
    clear hc
    generalize hP : (fun x => !fin (cl .f32 x) || fle (cl .f32 x) (cl .f32 0)) = P
    have hp : ∀ x w, Calls Try.prog 71 #[.float .f32 x] w fun e w' => e = .returned (.bool (P x)) ∧ ∃ n, w' = w.drewN n := by subst hP; exact c_arePositive1
    clear hP
    have HP := Lib.hid hp
    clear hp
    go_enter Try.func81, Try.ntmps81
    go_wp2_with fail
    go_loopw [8] (fun i wr => ∃ k : Nat, k ≤ xs.length ∧ i = .int .i64 k ∧ Hid (∀ j x, j < k → xs[j]? = some x → P x = false) ∧ ∃ m, wr = w.drewN m) (fun i _ => xs.length - (intOf i).toNat)
    case atStart => exact ⟨0, Nat.zero_le _, rfl, fun _ _ h => absurd h (by omega), 0, rfl⟩
    case round =>
      obtain ⟨k, hk, rfl, hno, m, rfl⟩ := hrel
      by_cases hlt : k < xs.length
      · have hcell := HC.out k xs[k] (List.getElem?_eq_getElem hlt)
        cases hpx : P xs[k]
        · have HX := Lib.hid hpx
          go_wp2_with ((go_at_call 71; refine (HP.out _ _).mono ?_; rintro e w' ⟨rfl, nq, rfl⟩))
          go_roundw
          case rel => exact ⟨k + 1, by omega, by go_num, fun j x hj hx' => (by
            rcases Nat.lt_or_ge j k with h | h
            · exact hno.out j x h hx'
            · obtain rfl : j = k := by omega
              rw [List.getElem?_eq_getElem hlt] at hx'
              injection hx' with hx'
              rw [← hx']
              exact HX.out), _, rfl⟩
          case measure => simp [intOf]; omega
        · have HX := Lib.hid hpx
          go_wp2_with ((go_at_call 71; refine (HP.out _ _).mono ?_; rintro e w' ⟨rfl, nq, rfl⟩))
          go_ret
          exact ⟨by rw [idx_at hno.out hlt HX.out]; rfl, _, rfl⟩
      · have HE := Lib.hid (idx_none (p := P) (xs := xs) fun x hx => (by
          obtain ⟨j, hj, rfl⟩ := List.getElem_of_mem hx
          exact hno.out j _ (by omega) (List.getElem?_eq_getElem hj)))
        clear hno
        go_wp2_with fail
        go_ret
        exact ⟨by rw [HE.out]; rfl, _, rfl⟩

theorem c_ContainsFunc1 (A : Option Addr) (cap B : Nat) (xs : List Nat) (w : World) (h : Fl w B A xs.length xs) (hm : xs.length ≤ maxLen) :
    Calls Try.prog 62 #[.slice A xs.length cap, .func (.func 71) #[] #[]] w fun e w' => e = .returned (.bool (xs.any (fun x => !fin (cl .f32 x) || fle (cl .f32 x) (cl .f32 0)))) ∧ ∃ n, w' = w.drewN n := by
  have HF := Lib.hid h
  clear h
  go_enter Try.func62, Try.ntmps62
  go_wp2_with (go_at_call 81; refine (c_IndexFunc1 _ _ B _ _ HF.out hm).mono ?_; rintro e w' ⟨rfl, nq, rfl⟩)
  go_ret
  exact ⟨by rw [← idx_any]; rfl, _, rfl⟩


theorem c_arePositive (A : Option Addr) (cap B : Nat) (xs : List Nat) (w : World) (h : Fl w B A xs.length xs) (hm : xs.length ≤ maxLen) :
    Calls Try.prog 48 #[.slice A xs.length cap] w fun e w' => e = .returned (.bool (!xs.any fun x => !fin (cl .f32 x) || fle (cl .f32 x) (cl .f32 0))) ∧ ∃ n, w' = w.drewN n := by
  have HF := Lib.hid h
  clear h
  go_enter Try.func48, Try.ntmps48
  go_wp2_with (go_at_call 62; refine (c_ContainsFunc1 _ _ B _ _ HF.out hm).mono ?_; rintro e w' ⟨rfl, nq, rfl⟩)
  go_ret
  exact ⟨rfl, _, rfl⟩

end Go.Proofs.Ytkippcjifikegaa
