/-
  CONTRACT: slices.Delete of one value of a row of a call's own.
-/
import Derived.Lib.SliceRun
import Derived.Lib.SlicesDelete
import Derived.Deep.RegionLaw
import Derived.Test.YtlakmogclcpgdaaAddI
namespace Go.Proofs.Ytlakmogclcpgdaa
open Go.RowKit Go.Flt
set_option linter.unusedVariables false
set_option maxRecDepth 100000
set_option linter.unusedSimpArgs false

theorem zero_f32 (w : World) : (zeroValue 22).run Try.prog w = .ok (.float .f32 0) w := by kernel_rfl

set_option maxHeartbeats 4000000 in
theorem c_DeleteArr (blk cap i : Nat) (d : Array Nat) (w : World) (hH : Sort.Holds (Value.float .f32) w blk 0 d) (hcap : d.size ≤ cap) (hm : cap ≤ 9223372036854775807) (hj : i + 1 ≤ d.size) :
    Calls Try.prog 52 #[.slice (some ⟨blk, 0, none⟩) d.size cap, .int .i64 (i : Int), .int .i64 ((i + 1 : Nat) : Int)] w fun e w' => e = .returned (.slice (some ⟨blk, 0, none⟩) (i + (d.size - (i + 1))) cap) ∧ ∃ q, w' = Sort.putRow (Value.float .f32) (Sort.ahead w q) blk 0 (d.toList.take i ++ d.toList.drop (i + 1) ++ List.replicate (i + 1 - i) 0).toArray := by
  obtain ⟨i0, hi0, hz0, hz1, hz2⟩ := info_parts info_float32
  obtain ⟨j, hjd⟩ : ∃ j, j = i + 1 := ⟨_, rfl⟩
  rw [← hjd] at hj ⊢
  have hlt : i < j := by omega
  obtain ⟨news, hnews⟩ : ∃ news, news = (d.toList.drop j).map (Value.float .f32) := ⟨_, rfl⟩
  have hlen : news.length = d.size - j := by rw [hnews]; simp
  have hget : ∀ t, t < d.size - j → news[t]? = some (Value.float .f32 d[j + t]!) := by
    intro t ht
    rw [hnews, List.getElem?_map, List.getElem?_drop, Array.getElem?_toList, getElem!_pos d (j + t) (by omega), Array.getElem?_eq_getElem (by omega)]
    rfl
  obtain ⟨A, hA, hsrc⟩ : ∃ A : Addr, (if cap = j then some (⟨blk, 0, none⟩ : Addr) else some ⟨blk, j, none⟩) = some A ∧ Hid (∀ t u, news[t]? = some u → w.drew.cell? (A.add t) = some u) := by
    by_cases h : cap = j
    · refine ⟨⟨blk, 0, none⟩, by simp [h], fun t u hu => ?_⟩
      have h0 : news.length = 0 := by rw [hlen]; omega
      rw [List.length_eq_zero_iff.1 h0] at hu
      simp at hu
    · refine ⟨⟨blk, j, none⟩, by simp [h], fun t u hu => ?_⟩
      have ht : t < d.size - j := by
        have := (List.getElem?_eq_some_iff.1 hu).1
        rwa [hlen] at this
      rw [hget t ht] at hu
      have h1 := (hH (j + t) (by omega)).1.trans hu
      rw [Nat.zero_add] at h1
      rw [Addr.add_lit]
      exact h1
  have s1 : Hid (news.length = (d.size - j) * 1) := Lib.hid (by rw [Nat.mul_one]; exact hlen)
  have s2 : Hid (∀ u ∈ news, u.oneCell' = true) := Lib.hid (by
    intro u hu
    rw [hnews] at hu
    obtain ⟨x, _, rfl⟩ := List.mem_map.1 hu
    rfl)
  have s3 : Hid (∀ t, t < news.length → (w.drew.cell? ⟨blk, 0 + i * 1 + t, none⟩).isSome = true ∧ w.drew.frozen? ⟨blk, 0 + i * 1 + t, none⟩ = false) := Lib.hid (by
    intro t ht
    rw [hlen] at ht
    rw [Nat.mul_one, Nat.add_assoc]
    exact ⟨by show (w.cell? _).isSome = true; rw [(hH (i + t) (by omega)).1]; rfl, (hH (i + t) (by omega)).2⟩)
  obtain ⟨W1, hW1⟩ : ∃ W1, W1 = w.drew.setCells blk (0 + i * 1) news := ⟨_, rfl⟩
  have hW1' : W1 = Sort.putRow (Value.float .f32) (Sort.ahead w 1) blk 0 (Lib.lay d i (d.toList.drop j)) := by
    rw [hW1, hnews, Nat.mul_one, ← Lib.putRow_setCells (Value.float .f32) (Sort.ahead w 1) blk 0 _ d i (by simp; omega), Sort.putRow_self (Value.float .f32) (Sort.ahead w 1) blk 0 d (Sort.holds_ahead (Value.float .f32) w 1 blk 0 d hH)]
    rfl
  have hH1 : Sort.Holds (Value.float .f32) W1 blk 0 (Lib.lay d i (d.toList.drop j)) := by rw [hW1']; exact Sort.holds_putRow (Value.float .f32) _ blk 0 d _ (Sort.holds_ahead (Value.float .f32) w 1 blk 0 d hH) (Lib.lay_size _ _ _)
  have hcl : ∀ ty, (Builtin.clear_ #[23] ty #[.slice (some ⟨blk, i + (d.size - j), none⟩) (d.size - (i + (d.size - j))) (cap - (i + (d.size - j)))]).run Try.prog W1 = .ok (.tuple #[]) (W1.setCells blk (i + (d.size - j)) (List.replicate (d.size - (i + (d.size - j))) (Value.float .f32 0))) :=
    fun ty => Lib.run_clear_slice W1 _ _ ty _ Try.underlying23 zero_f32 rfl rfl blk (i + (d.size - j)) _ _ (by omega) (fun t ht => by have h := (hH1 (i + (d.size - j) + t) (by rw [Lib.lay_size]; omega)).1; rw [Nat.zero_add] at h; rw [h]; rfl) (fun t ht => by have h := (hH1 (i + (d.size - j) + t) (by rw [Lib.lay_size]; omega)).2; rw [Nat.zero_add] at h; exact h)
  have X : Hid (W1 = Sort.putRow (Value.float .f32) (Sort.ahead w 1) blk 0 (Lib.lay d i (d.toList.drop j))) := Lib.hid hW1'
  have hW : Hid (W1 = w.drew.setCells blk (0 + i * 1) news) := Lib.hid hW1
  have hic : i ≤ cap := by omega
  have hjc : j ≤ cap := by omega
  have HJ := Lib.hid hjd
  clear hW1 hW1' hH1 hH hget hnews hlen hjd
  go_enter Try.func52, Try.ntmps52
  go_wp2_with fail
  go_region_law (refine step_append_room rfl (.tmp 22) (.tmp 25) 23 rfl 22 i0 1 Try.underlying23 hi0 hz1 blk 0 i cap (by simp [Act.eval, Act.put]) A (d.size - j) (cap - j) news (by simp [Act.eval, Act.put]) s1.out hsrc.out s2.out (by omega) s3.out ?_; rw [← hW.out])
  go_wp2
  trace_state
  go_ret
  refine ⟨rfl, 1, ?_⟩
  have hD := Lib.delete_arr d i j 0 (by omega) hj
  rw [← hD, ← Lib.putRow_setCells (Value.float .f32) _ blk 0 _ _ (i + (d.size - j)) (by rw [Lib.lay_size]; simp; omega), ← X.out, List.map_replicate, show d.size - (i + (d.size - j)) = j - i by omega, Nat.zero_add]

theorem putRow_heap (w : World) (q blk : Nat) (d : Array Nat) (cur : Array Value) (t : TypeId) (h : w.heap[blk]? = some (.cells cur t (0, 0))) :
    (Sort.putRow (Value.float .f32) (Sort.ahead w q) blk 0 d).heap[blk]? = some (.cells (Sort.putCells (Value.float .f32) 0 d cur) t (0, 0)) := by
  simp [Sort.putRow, Sort.mapBlock, Sort.ahead, Array.getElem?_modify, h, Sort.onCells]

theorem putRow_touch (w : World) (q blk : Nat) (d : Array Nat) : Touch (some blk) w (Sort.putRow (Value.float .f32) (Sort.ahead w q) blk 0 d) :=
  ⟨rfl, rfl, rfl, by simp [Sort.putRow, Sort.mapBlock, Sort.ahead], fun k hk => by
    have : blk ≠ k := fun e => hk (by rw [e])
    simp [Sort.putRow, Sort.mapBlock, Sort.ahead, Array.getElem?_modify, this]⟩

theorem putCells_take (d : Array Nat) (cur : Array Value) (h : d.size ≤ cur.size) (n : Nat) (hn : n ≤ d.size) : (Sort.putCells (Value.float .f32) 0 d cur).toList.take n = (d.toList.take n).map (Value.float .f32) := by
  apply List.ext_getElem?
  intro j
  by_cases hj : j < n
  · rw [List.getElem?_take_of_lt hj, List.getElem?_map, List.getElem?_take_of_lt hj]
    have h1 : j < cur.size := by omega
    have h2 : j < d.size := by omega
    simp [Sort.putCells, h1, h2]
  · rw [List.getElem?_eq_none (by simp; omega), List.getElem?_eq_none (by simp; omega)]

theorem c_DeleteRow (lo hi : Nat) (v : Value) (xs : List Nat) (k : Nat) (w : World) (h : FRow w lo hi v xs) (hk : k < xs.length) :
    Calls Try.prog 52 #[v, .int .i64 (k : Int), .int .i64 ((k + 1 : Nat) : Int)] w fun e w' => ∃ v', e = .returned v' ∧ FRow w' lo hi v' (xs.eraseIdx k) ∧ v'.ownBlock = v.ownBlock ∧ Touch v.ownBlock w w' := by
  rcases h.1.2 with ⟨rfl, hn'⟩ | ⟨b, cap, cur, rfl, hb, hgg, h1, h2, h3, h4⟩
  · omega
  have hbh := h.2 b rfl
  have hlt : ∀ j, j < xs.length → cur[j]? = some (Value.float .f32 (xs.getD j 0)) := fun j hj => by
    have e := congrArg (fun l => l[j]?) h4
    simp only [List.getElem?_map] at e
    rw [List.getElem?_take_of_lt (by simp; omega)] at e
    simpa [hj] using e
  have hH : Sort.Holds (Value.float .f32) w b 0 xs.toArray := fun j hj => by
    have hj' : j < xs.length := by simpa using hj
    refine ⟨?_, by simp [World.frozen?, hgg]⟩
    have e := hlt j hj'
    simp [World.cell?, hgg, e, hj']
  have hc := c_DeleteArr b cap k xs.toArray w hH (by simpa using h1) (by unfold maxLen at h2; omega) (by simp; omega)
  simp only [List.size_toArray] at hc
  refine hc.mono ?_
  rintro e w' ⟨rfl, q, rfl⟩
  have hsz : xs.length ≤ cur.size := by rw [h3]; omega
  have hdl : (xs.take k ++ xs.drop (k + 1) ++ List.replicate (k + 1 - k) 0).length = xs.length := by simp; omega
  have hel : (xs.eraseIdx k).length = k + (xs.length - (k + 1)) := by rw [List.length_eraseIdx]; simp [hk]; omega
  refine ⟨_, rfl, ⟨⟨by simp, .inr ⟨b, cap, _, by rw [hel], hb, putRow_heap w q b _ cur _ hgg, by rw [hel]; omega, h2, ?_, ?_⟩⟩, fun j hj => h.2 j (by simpa [Value.ownBlock] using hj)⟩, rfl, putRow_touch w q b _⟩
  · simpa [Sort.putCells] using h3
  · rw [Nat.mul_one, putCells_take _ _ (by rw [List.size_toArray, hdl]; exact hsz) _ (by rw [hel, List.size_toArray, hdl]; omega), hel]
    congr 1
    simp only [List.toList_toArray]
    rw [List.take_append_of_le_length (by simp; omega), List.take_of_length_le (by simp; omega), List.eraseIdx_eq_take_drop_succ]

theorem two_touch1 {w0 wb w w' : World} {lo b : Nat} {v1 v2 v' : Value} {zs us zs' : List Nat} (h : Two w0 wb w lo b v1 v2 zs us) (hr : FRow w' lo w.heap.size v' zs') (ho : v'.ownBlock = v1.ownBlock) (ht : Touch v1.ownBlock w w') : Two w0 wb w' lo b v' v2 zs' us where
  r1 := by rw [ht.size]; exact hr
  r2 := by rw [ht.size]; exact h.r2.touch ht (fun k e e2 => h.ap k e e2)
  ap := fun k e => h.ap k (by rw [← ho]; exact e)
  n1 := by rw [ho]; exact h.n1
  n2 := h.n2
  bx := (ht.block b (fun e => h.n1 e.symm)).trans h.bx
  gr := ⟨ht.os.trans h.gr.os, ht.tape.trans h.gr.tape, ht.output.trans h.gr.output, by rw [ht.size]; exact h.gr.size, fun k hk => (ht.block k (fun e => by have := (h.r1.1.lt k e.symm).1; have := h.hl; omega)).trans (h.gr.block k hk)⟩
  hb := h.hb
  hl := h.hl
  ll := by rw [ht.size]; exact h.ll
  lt := by rw [ht.size]; exact h.lt

end Go.Proofs.Ytlakmogclcpgdaa
