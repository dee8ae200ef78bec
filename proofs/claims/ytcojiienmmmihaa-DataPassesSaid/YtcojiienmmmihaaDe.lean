/- Walks: the reference's Same, data.Batch where it refuses, awake of layer 6. -/
import Derived.Test.YtcojiienmmmihaaDd
namespace Go.Proofs.Ytcojiienmmmihaa
open Go.RowKit Go.Joins Go.Shelf
set_option maxRecDepth 100000
set_option linter.unusedVariables false

/-- A slice that reads as the list, wherever it lies. -/
def Reads (w : World) (v : Value) (L : List Int) : Prop := ∃ oa cap, v = .slice oa L.length cap ∧ ∀ j, j < L.length → ∃ a, oa = some a ∧ w.cell? (a.add j) = some (.int .i64 (nth L j))

theorem Same_len (oa ob : Option Addr) (n m ca cb : Nat) (w : World) (hn : n ≠ m) (hn2 : n ≤ maxLen) (hm2 : m ≤ maxLen) :
    Calls Try.prog 33 #[.slice oa n ca, .slice ob m cb] w fun e w' => e = .returned (.bool false) ∧ Below w.heap.size w w' := by
  have h1 : ((n : Int) == (m : Int)) = false := by simp; omega
  have h2 : decide ((n : Int) = (m : Int)) = false := by simp; omega
  have h3 : ((n : Int) != (m : Int)) = true := by simp; omega
  go_enter Try.func33, Try.ntmps33
  go_wp2_with fail
  go_ret
  exact ⟨rfl, Below.refl _ _⟩
theorem Same_zero (oa ob : Option Addr) (ca cb : Nat) (w : World) :
    Calls Try.prog 33 #[.slice oa 0 ca, .slice ob 0 cb] w fun e w' => e = .returned (.bool true) ∧ Below w.heap.size w w' := by
  go_enter Try.func33, Try.ntmps33
  go_wp2_with fail
  refine wp_loop_rounds 1 ?_
  rw [rounds_succ]
  go_wp2_with fail
  go_ret
  exact ⟨rfl, Below.refl _ _⟩
set_option maxHeartbeats 2000000 in
theorem Same_some (a b : Addr) (n ca cb : Nat) (A B : Nat → Int) (w : World) (hn : 0 < n) (hn2 : n ≤ maxLen) (ha : ∀ j, j < n → w.cell? (a.add j) = some (.int .i64 (A j))) (hb : ∀ j, j < n → w.cell? (b.add j) = some (.int .i64 (B j))) :
    Calls Try.prog 33 #[.slice (some a) n ca, .slice (some b) n cb] w fun e w' => (e = .returned (.bool true) ∧ (∀ j, j < n → A j = B j) ∨ e = .returned (.bool false) ∧ ∃ j, j < n ∧ A j ≠ B j) ∧ Below w.heap.size w w' := by
  have HA := Lib.hid ha
  have HB := Lib.hid hb
  clear ha hb
  unfold maxLen at hn2
  go_enter Try.func33, Try.ntmps33
  go_wp2_with fail
  go_loopw [5] (fun i wr => ∃ k : Nat, k ≤ n ∧ i = .int .i64 (k : Int) ∧ (∀ j, j < k → A j = B j) ∧ Below w.heap.size w wr)
    (fun i _ => n - (intOf i).toNat)
  case atStart => exact ⟨0, Nat.zero_le _, rfl, fun _ h => absurd h (by omega), Below.refl _ _⟩
  case round =>
    obtain ⟨k, hk, rfl, hsame, hB⟩ := hrel
    have HS := Lib.hid hsame
    clear hsame
    by_cases hlt : k < n
    · have ca := (hB.cell (World.block_lt_of_cell? _ _ (HA.out k hlt))).trans (HA.out k hlt)
      have cb := (hB.cell (World.block_lt_of_cell? _ _ (HB.out k hlt))).trans (HB.out k hlt)
      obtain ⟨x, hx⟩ : ∃ x, x = A k := ⟨_, rfl⟩
      obtain ⟨y, hy⟩ : ∃ y, y = B k := ⟨_, rfl⟩
      rw [← hx] at ca
      rw [← hy] at cb
      by_cases he : x = y
      · have h1 : (x == y) = true := by simp [he]
        have HX := Lib.hid hx; have HY := Lib.hid hy; have HE := Lib.hid he
        clear hx hy he
        have h2 : decide (x = y) = true := by simpa using h1
        have h3 : (x != y) = false := by simpa using h1
        go_wp2_with fail
        go_region
        go_wp2_with fail
        go_roundw
        case rel =>
          refine ⟨k + 1, by omega, by go_num, fun j hj => ?_, hB.drew⟩
          rcases Nat.lt_or_ge j k with h | h
          · exact HS.out j h
          · obtain rfl : j = k := by omega
            rw [← HX.out, ← HY.out, HE.out]
        case measure => simp [intOf]; omega
      · have h1 : (x == y) = false := by simpa using he
        have h2 : decide (x = y) = false := by simpa using he
        have h3 : (x != y) = true := by simpa using he
        have HX := Lib.hid hx; have HY := Lib.hid hy; have HE := Lib.hid he
        clear hx hy he
        go_wp2_with fail
        go_region
        go_wp2_with fail
        go_ret
        exact ⟨.inr ⟨rfl, k, hlt, by rw [← HX.out, ← HY.out]; exact HE.out⟩, hB.drew⟩
    · obtain rfl : k = n := by omega
      go_wp2_with fail
      go_ret
      exact ⟨.inl ⟨rfl, HS.out⟩, hB⟩

theorem list_eq_nth {A B : List Int} (hl : A.length = B.length) (h : ∀ j, j < A.length → nth A j = nth B j) : A = B := by
  apply List.ext_getElem hl
  intro j h1 h2
  have := h j h1
  simpa [nth, List.getD_eq_getElem?_getD, h1, h2] using this

theorem Same_any (va vb : Value) (A B : List Int) (w : World) (ha : Reads w va A) (hb : Reads w vb B) (la : A.length ≤ maxLen) (lb : B.length ≤ maxLen) :
    Calls Try.prog 33 #[va, vb] w fun e w' => e = .returned (.bool (decide (A = B))) ∧ Below w.heap.size w w' := by
  obtain ⟨oa, ca, rfl, ha⟩ := ha
  obtain ⟨ob, cb, rfl, hb⟩ := hb
  by_cases hl : A.length = B.length
  · rcases Nat.eq_zero_or_pos A.length with h0 | h0
    · have : A = B := (List.eq_nil_of_length_eq_zero h0).trans (List.eq_nil_of_length_eq_zero (hl ▸ h0)).symm
      rw [h0, ← hl, h0]
      refine (Same_zero oa ob ca cb w).mono ?_
      rintro e w' ⟨rfl, hb⟩
      exact ⟨by rw [decide_eq_true this], hb⟩
    · obtain ⟨a, rfl, _⟩ := ha 0 h0
      obtain ⟨b, rfl, _⟩ := hb 0 (hl ▸ h0)
      rw [← hl]
      refine (Same_some a b A.length ca cb (nth A) (nth B) w h0 la (fun j hj => ?_) (fun j hj => ?_)).mono ?_
      · obtain ⟨_, e, h⟩ := ha j hj; cases e; exact h
      · obtain ⟨_, e, h⟩ := hb j (hl ▸ hj); cases e; exact h
      · rintro e w' ⟨⟨rfl, h⟩ | ⟨rfl, j, hj, h⟩, hbel⟩
        · exact ⟨by rw [decide_eq_true (list_eq_nth hl h)], hbel⟩
        · exact ⟨by rw [decide_eq_false (fun e => h (by rw [e]))], hbel⟩
  · refine (Same_len oa ob _ _ ca cb w hl la lb).mono ?_
    rintro e w' ⟨rfl, hb⟩
    exact ⟨by rw [decide_eq_false (fun e => hl (by rw [e]))], hb⟩

theorem Reads.of_owns {w : World} {base : Nat} {v : Value} {L : List Int} (h : w.ownsRow base 3 1 v L.length (L.map (Value.int .i64))) : Reads w v L := by
  rcases ownsRow_forms h with ⟨rfl, h0⟩ | ⟨g, cap, rfl⟩
  · exact ⟨none, 0, by rw [h0], fun j hj => absurd hj (by omega)⟩
  · refine ⟨some ⟨g, 0, none⟩, cap, rfl, fun j hj => ⟨_, rfl, h.cells (g := g) rfl j _ ?_⟩⟩
    simp [nth, List.getD_eq_getElem?_getD, hj]

theorem Reads.below {w w' : World} {v : Value} {L : List Int} (h : Reads w v L) (hb : Below w.heap.size w w') : Reads w' v L := by
  obtain ⟨oa, cap, rfl, hc⟩ := h
  refine ⟨oa, cap, rfl, fun j hj => ?_⟩
  obtain ⟨a, e, hc⟩ := hc j hj
  exact ⟨a, e, (hb.cell (World.block_lt_of_cell? _ _ hc)).trans hc⟩

theorem Batch_no (s : Nat) (worker round step size : Int) (m : Nat) (oa : Option Addr) (cap : Nat) (w : World)
    (h : ¬ ((0 ≤ worker ∧ worker ≤ 63) ∧ (0 ≤ round ∧ round ≤ 256) ∧ (0 ≤ step ∧ step ≤ 63) ∧ (1 ≤ size ∧ size ≤ 64) ∧ (1 ≤ (m : Int) ∧ (m : Int) ≤ 4096))) :
    Calls Try.prog 35 #[.int .u64 (s : Int), .int .i64 worker, .int .i64 round, .int .i64 step, .int .i64 size, .slice oa m cap] w fun e w' => e = .returned (.tuple #[.slice none 0 0, .int .i64 2]) ∧ Below w.heap.size w w' := by
  have HD := Lib.hid (decide_eq_false h)
  clear h
  go_enter Try.func35, Try.ntmps35
  go_wp2_with fail
  refine (within5 _ _ _ _ _ _ _ _ _ _ _ _ _ _ _ _ _ (by simp)).mono ?_
  rintro e w1 ⟨rfl, hb1⟩
  rw [HD.out]
  obtain ⟨w6, hw6⟩ : ∃ w6, w6 = (((((w.alloc (Obj.cells #[.int .u64 (s : Int)] 22)).alloc (Obj.cells #[.int .i64 worker] 3)).alloc (Obj.cells #[.int .i64 round] 3)).alloc (Obj.cells #[.slice oa m cap] 34)).alloc (Obj.cells #[.slice none 0 0] 34)).alloc (Obj.cells #[.int .i64 0] 35) := ⟨_, rfl⟩
  have hsz6 : w6.heap.size = w.heap.size + 6 := by rw [hw6]; simp
  have hbw6 : Below w.heap.size w w6 := by
    rw [hw6]
    exact ((((((Below.refl _ w).alloc (Nat.le_refl _) _).alloc (by simp) _).alloc (by simp; omega) _).alloc (by simp; omega) _).alloc (by simp; omega) _).alloc (by simp; omega) _
  have d12 : Boxed w6 (w.heap.size + 1 + 1 + 1 + 1) 34 (.slice none 0 0) := by
    have := (Boxed.new ((((w.alloc (Obj.cells #[.int .u64 (s : Int)] 22)).alloc (Obj.cells #[.int .i64 worker] 3)).alloc (Obj.cells #[.int .i64 round] 3)).alloc (Obj.cells #[.slice oa m cap] 34)) 34 (.slice none 0 0)).alloc (Obj.cells #[.int .i64 0] 35)
    simp only [World.size_alloc] at this
    rw [hw6]; exact this
  have d13 : Boxed w6 (w.heap.size + 1 + 1 + 1 + 1 + 1) 35 (.int .i64 0) := by
    have := (Boxed.new (((((w.alloc (Obj.cells #[.int .u64 (s : Int)] 22)).alloc (Obj.cells #[.int .i64 worker] 3)).alloc (Obj.cells #[.int .i64 round] 3)).alloc (Obj.cells #[.slice oa m cap] 34)).alloc (Obj.cells #[.slice none 0 0] 34)) 35 (.int .i64 0))
    simp only [World.size_alloc] at this
    rw [hw6]; exact this
  rw [← hw6] at hb1
  have hb : Below w6.heap.size w6 w1 := hb1
  clear hw6 hb1
  have e12 : Boxed w1 (w.heap.size + 1 + 1 + 1 + 1) 34 (.slice none 0 0) := (hb.block _ (by omega)).trans d12
  have e13 : Boxed w1 (w.heap.size + 1 + 1 + 1 + 1 + 1) 35 (.int .i64 0) := (hb.block _ (by omega)).trans d13
  have c12 := e12.cell
  have c13 := e13.cell
  have f12 := e12.frozen
  have f13 := e13.frozen
  have E12 := Lib.hid e12; have E13 := Lib.hid e13
  clear e12 e13 d12 d13
  go_wp2_with fail
  have n12 := ((E12.out.set (.slice none 0 0)).other (B' := w.heap.size + 1 + 1 + 1 + 1 + 1) (by omega) (.int .i64 2)).cell
  have n13 := (((E13.out.other (B' := w.heap.size + 1 + 1 + 1 + 1) (by omega) (.slice none 0 0))).set (.int .i64 2)).cell
  refine bodyPost_ret (by simp [results, Try.results35, go_sem, n12, n13]) rfl ⟨rfl, ?_⟩
  exact ((hbw6.trans (hb.mono (by omega))).setCell (p := ⟨w.heap.size + 1 + 1 + 1 + 1, 0, none⟩) (show w.heap.size ≤ w.heap.size + 1 + 1 + 1 + 1 by omega) _).setCell (p := ⟨w.heap.size + 1 + 1 + 1 + 1 + 1, 0, none⟩) (show w.heap.size ≤ w.heap.size + 1 + 1 + 1 + 1 + 1 by omega) _

theorem M.batch_one (s worker round step size : Nat) (hm : 1 ≤ 1) (x : Int) : M.batch s worker round step size 1 hm [x] = List.replicate size x := by
  unfold M.batch
  rw [List.eq_replicate_iff]
  refine ⟨by simp [turnsTo_length], fun y hy => ?_⟩
  obtain ⟨t, _, rfl⟩ := List.mem_map.1 hy
  have h := M.plc_lt s 2 (worker : Int) ((round : Int) * 65536 + (t.1.1 : Int)) (by omega : 1 ≤ 65536) t.2.1
  have h0 : M.plc s 2 (worker : Int) ((round : Int) * 65536 + (t.1.1 : Int)) 1 t.1.2 = 0 := by omega
  simp [M.batchAt, h0, nth]

theorem M.own_length (s workers n worker : Nat) : (M.own s workers n worker).length = M.beg workers n (worker + 1) - M.beg workers n worker := by simp [M.own, M.ownK]

set_option maxHeartbeats 1000000 in
theorem awake6_any (w : World) : Calls Try.prog 30 #[] w (Yes w) := by
  go_enter Try.func30, Try.ntmps30
  go_wp2_with fail
  refine (Own_yes 3 1 0 4 _ (by omega) (by omega) (by omega) (by omega) (by omega)).mono ?_
  rintro e w1 ⟨v1, rfl, hrow1, hb1⟩
  rw [show (M.own 3 1 4 0).length = 4 from M.own_length 3 1 4 0] at hrow1
  obtain ⟨g1, cap1, rfl⟩ := ownsRow_succ hrow1
  clear hrow1
  go_wp2_with fail
  refine (Batch_yes 3 0 0 0 3 1 _ _ [7] _ (by omega) (by omega) (by omega) (by omega) (by omega) (by omega) (by omega) ?_).mono ?_
  · intro j hj
    obtain rfl : j = 0 := by omega
    simp [go_sem, nth]
  rintro e w2 ⟨v2, rfl, hrow2, hb2⟩
  rw [M.batch_one] at hrow2
  have hrd := Reads.of_owns hrow2
  obtain ⟨g2, cap2, rfl⟩ := ownsRow_succ (k := 2) hrow2
  clear hrow2
  have hB2 : Below w.heap.size w w2 := (hb1.alloc (by have := hb1.size; omega) _).trans (hb2.mono (by have := hb1.size; simp; omega))
  have HB2 := Lib.hid hB2
  have HRD := Lib.hid hrd
  clear hb1 hb2 hB2 hrd
  go_wp2_with fail
  refine (Same_any _ _ [7, 7, 7] [7, 7, 7] _ (HRD.out.below ((Below.refl _ _).alloc (Nat.le_refl _) _)) ⟨_, _, rfl, ?_⟩ (by decide) (by decide)).mono ?_
  · intro j hj
    refine ⟨_, rfl, ?_⟩
    match j, hj with
    | 0, _ => simp [go_sem, nth]
    | 1, _ => simp [go_sem, nth]
    | 2, _ => simp [go_sem, nth]
  rintro e w3 ⟨rfl, hb3⟩
  rw [decide_eq_true (rfl : ([7, 7, 7] : List Int) = [7, 7, 7])]
  go_wp2_with fail
  go_ret
  exact ⟨rfl, (HB2.out.alloc (by have := HB2.out.size; omega) _).trans (hb3.mono (by have := HB2.out.size; simp; omega))⟩
end Go.Proofs.Ytcojiienmmmihaa
