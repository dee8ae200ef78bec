/- Walks: the law RandOrders. -/
import Derived.Test.YtcojiienmmmihaaJ
namespace Go.Proofs.Ytcojiienmmmihaa
open Go.RowKit Go.Joins
set_option maxRecDepth 100000

theorem Try.info4 : (Try.prog.info? 4).map (fun i => (i.zero, i.size, i.bytes)) = some (some (.bool false), 1, 1) := by kernel_rfl

/-- Which numbers below n stand among the first k. -/
def marks (L : List Int) (k n : Nat) : List Bool := (List.range n).map fun (v : Nat) => (List.range k).any fun j => nth L j == (v : Int)
theorem marks_length (L k n) : (marks L k n).length = n := by simp [marks]
theorem marks_get (L : List Int) (k n v : Nat) (hv : v < n) : (marks L k n)[v]? = some ((List.range k).any fun j => nth L j == (v : Int)) := by
  simp [marks, hv]
theorem marks_zero (L n) : marks L 0 n = List.replicate n false := by
  apply List.ext_getElem?
  intro v
  by_cases hv : v < n
  · rw [marks_get L 0 n v hv]; simp [hv]
  · rw [List.getElem?_eq_none (by rw [marks_length]; omega), List.getElem?_eq_none (by simp; omega)]
theorem marks_new (L : List Int) (k n X : Nat) (hX : X < n) (hk : nth L k = X) (inj : ∀ j, j < k → nth L j ≠ nth L k) : (marks L k n)[X]? = some false := by
  rw [marks_get L k n X hX]
  congr 1
  rw [List.any_eq_false]
  intro j hj
  have := inj j (List.mem_range.1 hj)
  rw [hk] at this
  simpa using this
theorem marks_step (L : List Int) (k n X : Nat) (hX : X < n) (hk : nth L k = X) : (marks L k n).set X true = marks L (k + 1) n := by
  apply List.ext_getElem?
  intro v
  by_cases hv : v < n
  · rw [marks_get L (k + 1) n v hv, List.getElem?_set, marks_length, List.range_succ, List.any_append]
    by_cases e : X = v
    · subst e; simp [hX, hk]
    · rw [if_neg e, marks_get L k n v hv]
      have : ((X : Int) == (v : Int)) = false := by simp; omega
      simp [hk, this]
  · rw [List.getElem?_eq_none (by rw [List.length_set, marks_length]; omega), List.getElem?_eq_none (by rw [marks_length]; omega)]

theorem order_nth {n : Nat} {L : List Int} (h : M.Order n L) (k : Nat) (hk : k < n) : ∃ X : Nat, nth L k = X ∧ X < n := by
  have := h.bd k hk
  exact ⟨(nth L k).toNat, by unfold nth; omega, by unfold nth; omega⟩
theorem order_inj {n : Nat} {L : List Int} (h : M.Order n L) (k : Nat) (hk : k < n) : ∀ j, j < k → nth L j ≠ nth L k := fun j hj e => by
  have := h.inj j k (by omega) hk e; omega

set_option maxHeartbeats 1000000 in
theorem RandOrders_low (s : Nat) (a b c n : Int) (w : World) (h : n < 0) : Calls Try.prog 6 #[.agg #[.int .u64 (s : Int), .int .i64 a, .int .i64 b, .int .i64 c], .int .i64 n] w (Yes w) := by
  go_enter Try.func6, Try.ntmps6
  go_wp2_with fail
  refine (awake_any _).mono ?_
  rintro e w1 ⟨rfl, hb1⟩
  have hB1 : Below (w.heap.size + 1) (w.alloc (Obj.cells #[.int .u64 (s : Int), .int .i64 a, .int .i64 b, .int .i64 c] 24)) w1 := hb1.mono (by simp)
  have hs1 := Below.le hB1 (by simp)
  clear hb1
  obtain ⟨k0, k1, k2, k3⟩ := key_cells hB1
  go_wp2_with fail
  go_ret
  exact ⟨rfl, ((Below.refl _ _).alloc (Nat.le_refl _) _).trans (hB1.mono (by omega))⟩

set_option maxHeartbeats 1000000 in
theorem RandOrders_high (s : Nat) (a b c n : Int) (w : World) (h : 500 < n) : Calls Try.prog 6 #[.agg #[.int .u64 (s : Int), .int .i64 a, .int .i64 b, .int .i64 c], .int .i64 n] w (Yes w) := by
  have h2 : ¬ n < 0 := by omega
  go_enter Try.func6, Try.ntmps6
  go_wp2_with fail
  refine (awake_any _).mono ?_
  rintro e w1 ⟨rfl, hb1⟩
  have hB1 : Below (w.heap.size + 1) (w.alloc (Obj.cells #[.int .u64 (s : Int), .int .i64 a, .int .i64 b, .int .i64 c] 24)) w1 := hb1.mono (by simp)
  have hs1 := Below.le hB1 (by simp)
  clear hb1
  obtain ⟨k0, k1, k2, k3⟩ := key_cells hB1
  go_wp2_with fail
  go_ret
  exact ⟨rfl, ((Below.refl _ _).alloc (Nat.le_refl _) _).trans (hB1.mono (by omega))⟩

theorem toList_madeCells_one' (n : Nat) : (madeCells (Value.bool false).cells (n * 1)).toList = (List.replicate n false).map Value.bool := by
  rw [Nat.mul_one, List.map_replicate]; exact toList_madeCells_one _ n
theorem map_bool_get {l : List Bool} {X : Nat} {b : Bool} (h : l[X]? = some b) : (l.map Value.bool)[X]? = some (.bool b) := by simp [h]

set_option maxHeartbeats 1000000 in
theorem RandOrders_zero (s : Nat) (a b c : Int) (w : World)  : Calls Try.prog 6 #[.agg #[.int .u64 (s : Int), .int .i64 a, .int .i64 b, .int .i64 c], .int .i64 ((0 : Nat) : Int)] w (Yes w) := by
  obtain ⟨i0, hi, hz0, hz1, hz2⟩ := info_parts Try.info4
  have HZ0 := Lib.hid hz0; have HZ1 := Lib.hid hz1; have HZ2 := Lib.hid hz2; have HI := Lib.hid hi
  clear hz0 hz1 hz2 hi
  go_enter Try.func6, Try.ntmps6
  go_wp2_with fail
  refine (awake_any _).mono ?_
  rintro e w1 ⟨rfl, hb1⟩
  have hB1 : Below (w.heap.size + 1) (w.alloc (Obj.cells #[.int .u64 (s : Int), .int .i64 a, .int .i64 b, .int .i64 c] 24)) w1 := hb1.mono (by simp)
  have hs1 := Below.le hB1 (by simp)
  clear hb1
  obtain ⟨k0, k1, k2, k3⟩ := key_cells hB1
  go_wp2_with fail
  refine (Perm_zero s a b c _).mono ?_
  rintro e w2 ⟨g, cap, rfl, hown, hb2⟩
  have hB2 := after_call hB1 hs1 hb2
  have hs2 := Below.le hB2 (by simp)
  clear hb2 hB1 hs1 k0 k1 k2 k3
  obtain ⟨k0, k1, k2, k3⟩ := key_cells hB2
  have hg := (hown.lt g rfl).2
  have c1 := own_cells hown (perm_len _ _)
  have C1 := Lib.hid c1
  clear c1 hown k0 k1 k2 k3
  have ho := M.order_perm (M.pick_le s a b c) 0
  obtain ⟨L, hL⟩ : ∃ L, L = M.perm (M.pick s a b c) 0 := ⟨_, rfl⟩
  rw [← hL] at C1 ho
  have HO := Lib.hid ho
  clear hL ho
  go_wp2_with (at_make; refine wpList_make_full _ rfl _ _ 39 rfl w2.heap.size 4 i0 (.bool false) 1 Try.underlying39 HI.out HZ0.out HZ1.out .i64 .i64 _ _ 0 rfl rfl rfl rfl (by rw [HZ2.out]; omega) (by unfold maxLen; omega) (Nat.le_refl _) ?_; intro w3 hown3 hgrow3)
  have hM3 : Below w2.heap.size w2 w3 := (Below.refl _ _).grown hgrow3 (Nat.le_refl _) (by intro k h; cases h)
  clear hgrow3
  rw [toList_madeCells_one', ← marks_zero L 0] at hown3
  obtain ⟨g3, hg3⟩ : ∃ g3, g3 = w2.heap.size := ⟨_, rfl⟩
  rw [← hg3] at hown3 ⊢
  have HG3 := Lib.hid hg3
  clear hg3
  go_loopw [9, 36] (fun _ i wr => ∃ k : Nat, k ≤ 0 ∧ i = .int .i64 k ∧ wr.ownsRow g3 4 1 (.slice (some ⟨g3, 0, none⟩) 0 0) 0 ((marks L k 0).map Value.bool) ∧ Below w2.heap.size w2 wr) (fun _ i _ => 0 - (intOf i).toNat)
  case atStart => exact ⟨0, Nat.zero_le _, rfl, hown3, hM3⟩
  case round =>
    obtain ⟨k, hk, rfl, hown, hM⟩ := hrel
    clear hown3 hM3
    by_cases hlt : k < 0
    · omega
    · go_wp2_with fail
      go_ret
      exact ⟨rfl, ((Below.refl _ _).alloc (Nat.le_refl _) _).trans ((after_call hB2 hs2 hM).mono (by omega))⟩

set_option maxHeartbeats 1000000 in
theorem RandOrders_some (s : Nat) (a b c : Int) (n : Nat) (w : World) (h0 : 1 ≤ n) (h1 : n ≤ 500) : Calls Try.prog 6 #[.agg #[.int .u64 (s : Int), .int .i64 a, .int .i64 b, .int .i64 c], .int .i64 (n : Int)] w (Yes w) := by
  obtain ⟨i0, hi, hz0, hz1, hz2⟩ := info_parts Try.info4
  have HZ0 := Lib.hid hz0; have HZ1 := Lib.hid hz1; have HZ2 := Lib.hid hz2; have HI := Lib.hid hi
  clear hz0 hz1 hz2 hi
  have hn0 : ¬ (n : Int) < 0 := by omega
  have hn1 : ¬ (500 : Int) < n := by omega
  go_enter Try.func6, Try.ntmps6
  go_wp2_with fail
  refine (awake_any _).mono ?_
  rintro e w1 ⟨rfl, hb1⟩
  have hB1 : Below (w.heap.size + 1) (w.alloc (Obj.cells #[.int .u64 (s : Int), .int .i64 a, .int .i64 b, .int .i64 c] 24)) w1 := hb1.mono (by simp)
  have hs1 := Below.le hB1 (by simp)
  clear hb1
  obtain ⟨k0, k1, k2, k3⟩ := key_cells hB1
  go_wp2_with fail
  refine (Perm_some s a b c n _ h0 (by omega)).mono ?_
  rintro e w2 ⟨g, cap, rfl, hown, hb2⟩
  have hB2 := after_call hB1 hs1 hb2
  have hs2 := Below.le hB2 (by simp)
  clear hb2 hB1 hs1 k0 k1 k2 k3
  obtain ⟨k0, k1, k2, k3⟩ := key_cells hB2
  have hg := (hown.lt g rfl).2
  have c1 := own_cells hown (perm_len _ _)
  have C1 := Lib.hid c1
  clear c1 hown k0 k1 k2 k3
  have ho := M.order_perm (M.pick_le s a b c) n
  obtain ⟨L, hL⟩ : ∃ L, L = M.perm (M.pick s a b c) n := ⟨_, rfl⟩
  rw [← hL] at C1 ho
  have HO := Lib.hid ho
  clear hL ho
  go_wp2_with (at_make; refine wpList_make_full _ rfl _ _ 39 rfl w2.heap.size 4 i0 (.bool false) 1 Try.underlying39 HI.out HZ0.out HZ1.out .i64 .i64 _ _ n rfl rfl rfl rfl (by rw [HZ2.out]; omega) (by unfold maxLen; omega) (Nat.le_refl _) ?_; intro w3 hown3 hgrow3)
  have hM3 : Below w2.heap.size w2 w3 := (Below.refl _ _).grown hgrow3 (Nat.le_refl _) (by intro k h; cases h)
  clear hgrow3
  rw [toList_madeCells_one', ← marks_zero L n] at hown3
  obtain ⟨g3, hg3⟩ : ∃ g3, g3 = w2.heap.size := ⟨_, rfl⟩
  rw [← hg3] at hown3 ⊢
  have HG3 := Lib.hid hg3
  clear hg3
  go_loopw [9, 36] (fun _ i wr => ∃ k : Nat, k ≤ n ∧ i = .int .i64 k ∧ wr.ownsRow g3 4 1 (.slice (some ⟨g3, 0, none⟩) n n) n ((marks L k n).map Value.bool) ∧ Below w2.heap.size w2 wr) (fun _ i _ => n - (intOf i).toNat)
  case atStart => exact ⟨0, Nat.zero_le _, rfl, hown3, hM3⟩
  case round =>
    obtain ⟨k, hk, rfl, hown, hM⟩ := hrel
    clear hown3 hM3
    by_cases hlt : k < n
    · have d1 := (hM.cell (p := ⟨g, k, none⟩) hg).trans (C1.out k hlt)
      obtain ⟨X, hX, hXn⟩ := order_nth HO.out k hlt
      have dX := hown.cellAt X (by omega)
      rw [map_bool_get (marks_new L k n X hXn hX (order_inj HO.out k hlt))] at dX
      have fX := hown.frozenAt X
      have hnew := Lib.hid (marks_step L k n X hXn hX)
      rw [hX] at d1
      clear hX
      go_wp2_with fail
      have h1 := (hown.stored X (.bool true)).1
      rw [← List.map_set, hnew.out] at h1
      have h2 := hM.setCell (p := ⟨g3, X, none⟩) (by rw [HG3.out]; exact Nat.le_refl _) (.bool true)
      go_roundw
      case rel => exact ⟨k + 1, by omega, by go_num, h1, h2⟩
      case measure => simp [intOf]; omega
    · go_wp2_with fail
      go_ret
      exact ⟨rfl, ((Below.refl _ _).alloc (Nat.le_refl _) _).trans ((after_call hB2 hs2 hM).mono (by omega))⟩


theorem RandOrders_row (s a b c n : Int) (w : World) (hs : (Lit.int .u64 s).wf = true) (_ : (Lit.int .i64 a).wf = true) (_ : (Lit.int .i64 b).wf = true) (_ : (Lit.int .i64 c).wf = true) (hn : (Lit.int .i64 n).wf = true) :
    Calls Try.prog 6 #[.agg #[.int .u64 s, .int .i64 a, .int .i64 b, .int .i64 c], .int .i64 n] w fun e w' => e = .returned (.bool true) ∧ Below w.heap.size w w' := by
  obtain ⟨q, rfl, _⟩ := nat_of_u64 hs
  have hb := bounds_i64 hn
  by_cases h : n < 0
  · exact RandOrders_low q a b c n w h
  by_cases h2 : 500 < n
  · exact RandOrders_high q a b c n w h2
  by_cases h4 : n = 0
  · subst h4; exact RandOrders_zero q a b c w
  · obtain ⟨m, rfl⟩ : ∃ m : Nat, n = m := ⟨n.toNat, by omega⟩
    exact RandOrders_some q a b c m w (by omega) (by omega)

end Go.Proofs.Ytcojiienmmmihaa
