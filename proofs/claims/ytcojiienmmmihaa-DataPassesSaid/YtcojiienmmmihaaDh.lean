/- Walks: data.Owner, the law DataOwners. -/
import Derived.Test.YtcojiienmmmihaaDg
namespace Go.Proofs.Ytcojiienmmmihaa
open Go.RowKit Go.Joins Go.Shelf
set_option maxRecDepth 100000
set_option linter.unusedVariables false

theorem M.beg_zero (workers n : Nat) : M.beg workers n 0 = 0 := by simp [M.beg]
theorem M.beg_full {workers n : Nat} (h : 1 ≤ workers) : M.beg workers n workers = n := by
  unfold M.beg; exact Nat.mul_div_cancel_left n h
theorem M.beg_le_of {workers n a b : Nat} (h : a ≤ b) : M.beg workers n a ≤ M.beg workers n b := Nat.div_le_div_right (Nat.mul_le_mul_right n h)
/-- A place lies in one worker's share alone. -/
theorem M.beg_one {workers n p a b : Nat} (h1 : M.beg workers n a ≤ p) (h2 : p < M.beg workers n (a + 1)) (h3 : M.beg workers n b ≤ p) (h4 : p < M.beg workers n (b + 1)) : a = b := by
  rcases Nat.lt_trichotomy a b with h | h | h
  · have := M.beg_le_of (workers := workers) (n := n) (show a + 1 ≤ b by omega); omega
  · exact h
  · have := M.beg_le_of (workers := workers) (n := n) (show b + 1 ≤ a by omega); omega

theorem Owner_no1 (s : Nat) (workers n i : Int) (w : World) (hw : -9223372036854775808 ≤ workers ∧ workers ≤ 9223372036854775807) (hn : -9223372036854775808 ≤ n ∧ n ≤ 9223372036854775807) (h : ¬ (1 ≤ workers ∧ workers ≤ 64 ∧ workers ≤ n ∧ n ≤ 4096)) :
    Calls Try.prog 38 #[.int .u64 (s : Int), .int .i64 workers, .int .i64 n, .int .i64 i] w fun e w' => e = .returned (.tuple #[.int .i64 0, .int .i64 2]) ∧ Below w.heap.size w w' := by
  have HD := Lib.hid (decide_eq_false h)
  clear h
  go_enter Try.func38, Try.ntmps38
  go_wp2_with fail
  refine (shards_any _ _ _ (by omega) (by omega)).mono ?_
  rintro e w1 ⟨rfl, hb1⟩
  rw [HD.out]
  go_wp2_with fail
  go_ret2
  exact ⟨rfl, hb1⟩
theorem Owner_no2 (s : Nat) (workers n i : Int) (w : World) (hq : 1 ≤ workers ∧ workers ≤ 64 ∧ workers ≤ n ∧ n ≤ 4096) (h : ¬ (0 ≤ i ∧ i ≤ n - 1)) :
    Calls Try.prog 38 #[.int .u64 (s : Int), .int .i64 workers, .int .i64 n, .int .i64 i] w fun e w' => e = .returned (.tuple #[.int .i64 0, .int .i64 2]) ∧ Below w.heap.size w w' := by
  have HD := Lib.hid (decide_eq_true hq)
  have HD2 := Lib.hid (decide_eq_false h)
  obtain ⟨q1, q2, q3, q4⟩ := hq
  clear h
  go_enter Try.func38, Try.ntmps38
  go_wp2_with fail
  refine (shards_any _ _ _ (by omega) (by omega)).mono ?_
  rintro e w1 ⟨rfl, hb1⟩
  rw [HD.out]
  go_wp2_with fail
  refine (within1 _ _ _ _).mono ?_
  rintro e w2 ⟨rfl, hb2⟩
  rw [HD2.out]
  have hbw : Below w.heap.size w w2 := hb1.trans (hb2.mono hb1.size)
  clear hb1 hb2
  go_wp2_with fail
  go_ret2
  exact ⟨rfl, hbw⟩

def OwnerPost (s workers n i : Nat) (w : World) (e : Ending) (w' : World) : Prop :=
  ∃ o : Nat, e = .returned (.tuple #[.int .i64 (o : Int), .int .i64 0]) ∧ o < workers ∧ M.beg workers n o ≤ M.plc s 1 0 0 n i ∧ M.plc s 1 0 0 n i < M.beg workers n (o + 1) ∧ Below w.heap.size w w'

set_option maxHeartbeats 4000000 in
theorem Owner_yes (s workers n i : Nat) (w : World) (h0 : 1 ≤ workers) (h1 : workers ≤ 64) (h2 : workers ≤ n) (h3 : n ≤ 4096) (h4 : i < n) :
    Calls Try.prog 38 #[.int .u64 (s : Int), .int .i64 (workers : Int), .int .i64 (n : Int), .int .i64 (i : Int)] w (OwnerPost s workers n i w) := by
  have hd1 : decide ((1 : Int) ≤ (workers : Int) ∧ (workers : Int) ≤ 64 ∧ (workers : Int) ≤ (n : Int) ∧ (n : Int) ≤ 4096) = true := decide_eq_true (by omega)
  have hd2 : decide ((0 : Int) ≤ (i : Int) ∧ (i : Int) ≤ (n : Int) - 1) = true := decide_eq_true (by omega)
  have HD1 := Lib.hid hd1
  have HD2 := Lib.hid hd2
  clear hd1 hd2
  go_enter Try.func38, Try.ntmps38
  go_wp2_with fail
  refine (shards_any _ _ _ (by omega) (by omega)).mono ?_
  rintro e w1 ⟨rfl, hb1⟩
  rw [HD1.out]
  go_wp2_with fail
  refine (within1 _ _ _ _).mono ?_
  rintro e w2 ⟨rfl, hb2⟩
  rw [HD2.out]
  have hbw : Below w.heap.size w w2 := hb1.trans (hb2.mono hb1.size)
  clear hb1 hb2
  go_wp2_with fail
  refine (Place_any s 1 0 0 n i _ (by omega) h4).mono ?_
  rintro e w3 ⟨rfl, hb3⟩
  have hbw3 : Below w.heap.size w w3 := hbw.trans (hb3.mono hbw.size)
  clear hb3 hbw
  have hp := M.plc_lt s 1 0 0 (by omega : n ≤ 65536) h4
  have HFULL := Lib.hid (M.beg_full (n := n) h0)
  have HBEG := Lib.hid (fun (k : Nat) (hk : k ≤ 64) W => begin_at workers k n W h0 h1 hk h3)
  have HZ := Lib.hid (M.beg_zero workers n)
  obtain ⟨p, hpe⟩ : ∃ p, p = M.plc s 1 0 0 n i := ⟨_, rfl⟩
  rw [← hpe] at hp ⊢
  have HP := Lib.hid hpe
  clear hpe
  go_wp2_with fail
  go_loopw [12] (fun x wr => ∃ k : Nat, k < workers ∧ x = .int .i64 (k : Int) ∧ M.beg workers n k ≤ p ∧ Below w.heap.size w wr) (fun x _ => workers - (intOf x).toNat)
  case atStart => exact ⟨0, by omega, rfl, by rw [HZ.out]; omega, hbw3⟩
  case round =>
    obtain ⟨k, hk, rfl, hbk, hB⟩ := hrel
    have HB := Lib.hid hB
    have HBK := Lib.hid hbk
    clear hB hbk hbw3
    go_wp2_with fail
    rw [show (k : Int) + 1 = ((k + 1 : Nat) : Int) by omega]
    refine (HBEG.out (k + 1) (by omega) _).mono ?_
    rintro en w4 ⟨rfl, rfl⟩
    obtain ⟨b, hb⟩ : ∃ b, b = M.beg workers n (k + 1) := ⟨_, rfl⟩
    rw [← hb]
    have HBB := Lib.hid hb
    clear hb
    by_cases hlt : b ≤ p
    · have d1 : decide ((b : Int) ≤ (p : Int)) = true := decide_eq_true (by omega)
      have hk1 : k + 1 < workers := by
        rcases Nat.lt_or_ge (k + 1) workers with h | h
        · exact h
        · exfalso
          have e1 : k + 1 = workers := by omega
          have e2 := HBB.out
          rw [e1, HFULL.out] at e2
          omega
      go_wp2_with fail
      go_roundw
      case rel => exact ⟨k + 1, hk1, by go_num, by rw [← HBB.out]; exact hlt, HB.out⟩
      case measure => simp [intOf]; omega
    · have d1 : decide ((b : Int) ≤ (p : Int)) = false := decide_eq_false (by omega)
      go_wp2_with fail
      go_ret2
      exact ⟨k, rfl, hk, by rw [← HP.out]; exact HBK.out, by rw [← HP.out, ← HBB.out]; omega, HB.out⟩

set_option maxHeartbeats 2000000 in
theorem DataOwners_skip (s : Nat) (a c i : Int) (b : Int) (w : World) (h1 : 300 < c) (h2 : c ≤ 4096) : Calls Try.prog 13 #[.agg #[.int .u64 (s : Int), .int .i64 a, .int .i64 b, .int .i64 c], .int .i64 i] w (Yes w) := by
  have d1 := decide_eq_true h1
  have d2 := decide_eq_true h2
  go_enter Try.func13, Try.ntmps13
  go_wp2_with fail
  refine (awake6_any _).mono ?_
  rintro e w1 ⟨rfl, hb1⟩
  have hB1 : Below (w.heap.size + 1) (w.alloc (Obj.cells #[.int .u64 (s : Int), .int .i64 a, .int .i64 b, .int .i64 c] 51)) w1 := hb1.mono (by simp)
  have hs1 := Below.le hB1 (by simp)
  clear hb1
  obtain ⟨k0, k1, k2, k3⟩ := key_cells hB1
  go_wp2_with fail
  go_ret
  exact ⟨rfl, ((Below.refl _ _).alloc (Nat.le_refl _) _).trans (hB1.mono (by omega))⟩

set_option maxHeartbeats 2000000 in
theorem DataOwners_no1s (s : Nat) (a c i : Int) (b : Int) (w : World) (ha : -9223372036854775808 ≤ a ∧ a ≤ 9223372036854775807) (hc : -9223372036854775808 ≤ c ∧ c ≤ 9223372036854775807) (hn : ¬ (1 ≤ a ∧ a ≤ 64 ∧ a ≤ c ∧ c ≤ 4096)) (h1 : c ≤ 300) : Calls Try.prog 13 #[.agg #[.int .u64 (s : Int), .int .i64 a, .int .i64 b, .int .i64 c], .int .i64 i] w (Yes w) := by
  have d1 : decide ((300 : Int) < c) = false := decide_eq_false (by omega)
  have HD := Lib.hid (decide_eq_false hn)
  go_enter Try.func13, Try.ntmps13
  go_wp2_with fail
  refine (awake6_any _).mono ?_
  rintro e w1 ⟨rfl, hb1⟩
  have hB1 : Below (w.heap.size + 1) (w.alloc (Obj.cells #[.int .u64 (s : Int), .int .i64 a, .int .i64 b, .int .i64 c] 51)) w1 := hb1.mono (by simp)
  have hs1 := Below.le hB1 (by simp)
  clear hb1
  obtain ⟨k0, k1, k2, k3⟩ := key_cells hB1
  go_wp2_with fail
  refine (Owner_no1 s a c i _ ha hc hn).mono ?_
  rintro e w2 ⟨rfl, hb2⟩
  have hB2 := after_call hB1 hs1 hb2
  have hs2 := Below.le hB2 (by simp)
  clear hb2 hB1 hs1 k0 k1 k2 k3
  obtain ⟨k0, k1, k2, k3⟩ := key_cells hB2
  go_wp2_with fail
  refine (Right_any _ _ _).mono ?_
  rintro e w3 ⟨rfl, rfl⟩
  rw [HD.out]
  go_wp2_with fail
  go_ret
  exact ⟨rfl, ((Below.refl _ _).alloc (Nat.le_refl _) _).trans (hB2.mono (by omega))⟩

set_option maxHeartbeats 2000000 in
theorem DataOwners_no1b (s : Nat) (a c i : Int) (b : Int) (w : World) (ha : -9223372036854775808 ≤ a ∧ a ≤ 9223372036854775807) (hc : -9223372036854775808 ≤ c ∧ c ≤ 9223372036854775807) (hn : ¬ (1 ≤ a ∧ a ≤ 64 ∧ a ≤ c ∧ c ≤ 4096)) (h1 : 4096 < c) : Calls Try.prog 13 #[.agg #[.int .u64 (s : Int), .int .i64 a, .int .i64 b, .int .i64 c], .int .i64 i] w (Yes w) := by
  have d1 : decide ((300 : Int) < c) = true := decide_eq_true (by omega)
  have d2 : decide (c ≤ (4096 : Int)) = false := decide_eq_false (by omega)
  have HD := Lib.hid (decide_eq_false hn)
  go_enter Try.func13, Try.ntmps13
  go_wp2_with fail
  refine (awake6_any _).mono ?_
  rintro e w1 ⟨rfl, hb1⟩
  have hB1 : Below (w.heap.size + 1) (w.alloc (Obj.cells #[.int .u64 (s : Int), .int .i64 a, .int .i64 b, .int .i64 c] 51)) w1 := hb1.mono (by simp)
  have hs1 := Below.le hB1 (by simp)
  clear hb1
  obtain ⟨k0, k1, k2, k3⟩ := key_cells hB1
  go_wp2_with fail
  refine (Owner_no1 s a c i _ ha hc hn).mono ?_
  rintro e w2 ⟨rfl, hb2⟩
  have hB2 := after_call hB1 hs1 hb2
  have hs2 := Below.le hB2 (by simp)
  clear hb2 hB1 hs1 k0 k1 k2 k3
  obtain ⟨k0, k1, k2, k3⟩ := key_cells hB2
  go_wp2_with fail
  refine (Right_any _ _ _).mono ?_
  rintro e w3 ⟨rfl, rfl⟩
  rw [HD.out]
  go_wp2_with fail
  go_ret
  exact ⟨rfl, ((Below.refl _ _).alloc (Nat.le_refl _) _).trans (hB2.mono (by omega))⟩

set_option maxHeartbeats 2000000 in
theorem DataOwners_no2l (s : Nat) (a c i : Int) (b : Int) (w : World) (ha : -9223372036854775808 ≤ a ∧ a ≤ 9223372036854775807) (hc : -9223372036854775808 ≤ c ∧ c ≤ 9223372036854775807) (hq : 1 ≤ a ∧ a ≤ 64 ∧ a ≤ c ∧ c ≤ 4096) (h1 : c ≤ 300) (h2 : i < 0) : Calls Try.prog 13 #[.agg #[.int .u64 (s : Int), .int .i64 a, .int .i64 b, .int .i64 c], .int .i64 i] w (Yes w) := by
  have d2 := decide_eq_true h2
  have d1 : decide ((300 : Int) < c) = false := decide_eq_false (by omega)
  have HD := Lib.hid (decide_eq_true hq)
  go_enter Try.func13, Try.ntmps13
  go_wp2_with fail
  refine (awake6_any _).mono ?_
  rintro e w1 ⟨rfl, hb1⟩
  have hB1 : Below (w.heap.size + 1) (w.alloc (Obj.cells #[.int .u64 (s : Int), .int .i64 a, .int .i64 b, .int .i64 c] 51)) w1 := hb1.mono (by simp)
  have hs1 := Below.le hB1 (by simp)
  clear hb1
  obtain ⟨k0, k1, k2, k3⟩ := key_cells hB1
  go_wp2_with fail
  refine (Owner_no2 s a c i _ hq (by omega)).mono ?_
  rintro e w2 ⟨rfl, hb2⟩
  have hB2 := after_call hB1 hs1 hb2
  have hs2 := Below.le hB2 (by simp)
  clear hb2 hB1 hs1 k0 k1 k2 k3
  obtain ⟨k0, k1, k2, k3⟩ := key_cells hB2
  go_wp2_with fail
  refine (Right_any _ _ _).mono ?_
  rintro e w3 ⟨rfl, rfl⟩
  rw [HD.out]
  go_wp2_with fail
  go_ret
  exact ⟨rfl, ((Below.refl _ _).alloc (Nat.le_refl _) _).trans (hB2.mono (by omega))⟩

set_option maxHeartbeats 2000000 in
theorem DataOwners_no2h (s : Nat) (a c i : Int) (b : Int) (w : World) (ha : -9223372036854775808 ≤ a ∧ a ≤ 9223372036854775807) (hc : -9223372036854775808 ≤ c ∧ c ≤ 9223372036854775807) (hq : 1 ≤ a ∧ a ≤ 64 ∧ a ≤ c ∧ c ≤ 4096) (h1 : c ≤ 300) (h2 : ¬ i < 0) (h3 : c ≤ i) : Calls Try.prog 13 #[.agg #[.int .u64 (s : Int), .int .i64 a, .int .i64 b, .int .i64 c], .int .i64 i] w (Yes w) := by
  have d2 := decide_eq_false h2
  have d3 := decide_eq_true h3
  have d1 : decide ((300 : Int) < c) = false := decide_eq_false (by omega)
  have HD := Lib.hid (decide_eq_true hq)
  go_enter Try.func13, Try.ntmps13
  go_wp2_with fail
  refine (awake6_any _).mono ?_
  rintro e w1 ⟨rfl, hb1⟩
  have hB1 : Below (w.heap.size + 1) (w.alloc (Obj.cells #[.int .u64 (s : Int), .int .i64 a, .int .i64 b, .int .i64 c] 51)) w1 := hb1.mono (by simp)
  have hs1 := Below.le hB1 (by simp)
  clear hb1
  obtain ⟨k0, k1, k2, k3⟩ := key_cells hB1
  go_wp2_with fail
  refine (Owner_no2 s a c i _ hq (by omega)).mono ?_
  rintro e w2 ⟨rfl, hb2⟩
  have hB2 := after_call hB1 hs1 hb2
  have hs2 := Below.le hB2 (by simp)
  clear hb2 hB1 hs1 k0 k1 k2 k3
  obtain ⟨k0, k1, k2, k3⟩ := key_cells hB2
  go_wp2_with fail
  refine (Right_any _ _ _).mono ?_
  rintro e w3 ⟨rfl, rfl⟩
  rw [HD.out]
  go_wp2_with fail
  go_ret
  exact ⟨rfl, ((Below.refl _ _).alloc (Nat.le_refl _) _).trans (hB2.mono (by omega))⟩

set_option maxHeartbeats 2000000 in
theorem DataOwners_yes (s : Nat) (a c i : Nat) (b : Int) (w : World) (h0 : 1 ≤ a) (h1 : a ≤ 64) (h2 : a ≤ c) (h3 : c ≤ 300) (h4 : i < c) : Calls Try.prog 13 #[.agg #[.int .u64 (s : Int), .int .i64 (a : Int), .int .i64 b, .int .i64 (c : Int)], .int .i64 (i : Int)] w (Yes w) := by
  have d1 : decide ((300 : Int) < (c : Int)) = false := decide_eq_false (by omega)
  have d2 : decide ((i : Int) < 0) = false := decide_eq_false (by omega)
  have d3 : decide ((c : Int) ≤ (i : Int)) = false := decide_eq_false (by omega)
  have HD := Lib.hid (decide_eq_true (show (1 : Int) ≤ (a : Int) ∧ (a : Int) ≤ 64 ∧ (a : Int) ≤ (c : Int) ∧ (c : Int) ≤ 4096 by omega))
  go_enter Try.func13, Try.ntmps13
  go_wp2_with fail
  refine (awake6_any _).mono ?_
  rintro e w1 ⟨rfl, hb1⟩
  have hB1 : Below (w.heap.size + 1) (w.alloc (Obj.cells #[.int .u64 (s : Int), .int .i64 (a : Int), .int .i64 b, .int .i64 (c : Int)] 51)) w1 := hb1.mono (by simp)
  have hs1 := Below.le hB1 (by simp)
  clear hb1
  obtain ⟨k0, k1, k2, k3⟩ := key_cells hB1
  go_wp2_with fail
  refine (Owner_yes s a c i _ h0 h1 h2 (by omega) h4).mono ?_
  rintro e w2 ⟨x, rfl, hx, hxl, hxh, hb2⟩
  have hB2 := after_call hB1 hs1 hb2
  have hs2 := Below.le hB2 (by simp)
  clear hb2 hB1 hs1 k0 k1 k2 k3
  obtain ⟨k0, k1, k2, k3⟩ := key_cells hB2
  have hbp := M.bck_plc s 1 0 0 (by omega : c ≤ 65536) h4
  have hnth : nth (M.own s a c x) (M.plc s 1 0 0 c i - M.beg a c x) = (i : Int) := by
    have hlt : M.plc s 1 0 0 c i - M.beg a c x < M.beg a c (x + 1) - M.beg a c x := by omega
    simp only [nth, M.own, M.ownK, List.getD_eq_getElem?_getD]
    rw [List.getElem?_map, List.getElem?_range hlt]
    simp only [Option.map_some, Option.getD_some]
    rw [show M.beg a c x + (M.plc s 1 0 0 c i - M.beg a c x) = M.plc s 1 0 0 c i by omega, hbp]
  have hj0 : M.plc s 1 0 0 c i - M.beg a c x < (M.own s a c x).length := by rw [M.own_length]; omega
  have hll : (M.own s a c x).length ≤ 4096 := by rw [M.own_length]; have := M.beg_le (n := c) h0 (show x + 1 ≤ a by omega); omega
  obtain ⟨j0, hje⟩ : ∃ j0, j0 = M.plc s 1 0 0 c i - M.beg a c x := ⟨_, rfl⟩
  rw [← hje] at hnth hj0
  have HROWN := Lib.hid (fun W => rOwn_yes s a x c W h0 h1 h2 (by omega) hx)
  obtain ⟨L, hL⟩ : ∃ L, L = M.own s a c x := ⟨_, rfl⟩
  rw [← hL] at hnth hj0 hll HROWN
  have HNTH := Lib.hid hnth
  clear hL hje hnth hbp hxl hxh
  have d5 : decide ((x : Int) < 0) = false := decide_eq_false (by omega)
  have d6 : decide ((a : Int) ≤ (x : Int)) = false := decide_eq_false (by omega)
  go_wp2_with fail
  refine (Right_any _ _ _).mono ?_
  rintro e w3 ⟨rfl, rfl⟩
  rw [HD.out]
  go_wp2_with fail
  refine (HROWN.out _).mono ?_
  rintro e w4 ⟨v4, rfl, hrd4, hb4⟩
  have hB4 := after_call hB2 hs2 hb4
  have hs4 := Below.le hB4 (by simp)
  clear hb4 hB2 hs2 k0 k1 k2 k3
  obtain ⟨oa, cp, rfl, hcs⟩ := hrd4
  obtain ⟨ad, rfl, _⟩ := hcs j0 hj0
  have HC := Lib.hid (fun j (hj : j < L.length) => show w4.cell? (ad.add j) = some (.int .i64 (nth L j)) from by obtain ⟨_, e, h⟩ := hcs j hj; cases e; exact h)
  have HB4 := Lib.hid hB4
  clear hcs hB4 HROWN HD
  obtain ⟨m, hm⟩ : ∃ m, m = L.length := ⟨_, rfl⟩
  rw [← hm] at HC hj0 hll ⊢
  clear hm
  go_wp2_with fail
  go_loopw [8, 73] (fun _ q wr => ∃ k : Nat, k ≤ j0 ∧ q = .int .i64 (k : Int) ∧ wr = w4) (fun _ q _ => m - (intOf q).toNat)
  case atStart => exact ⟨0, Nat.zero_le _, rfl, rfl⟩
  case round =>
    obtain ⟨k, hk, rfl, rfl⟩ := hrel
    have hc := HC.out k (by omega)
    obtain ⟨y, hy⟩ : ∃ y, y = nth L k := ⟨_, rfl⟩
    rw [← hy] at hc
    by_cases he : y = (i : Int)
    · have e1 : (y == (i : Int)) = true := by simp [he]
      have e2 : decide (y = (i : Int)) = true := by simp [he]
      clear he hy
      go_wp2_with fail
      go_ret
      exact ⟨rfl, ((Below.refl _ _).alloc (Nat.le_refl _) _).trans (HB4.out.mono (by omega))⟩
    · have hkj : k < j0 := by
        rcases Nat.lt_or_ge k j0 with h | h
        · exact h
        · exfalso
          obtain rfl : k = j0 := by omega
          exact he (hy.trans HNTH.out)
      have e1 : (y == (i : Int)) = false := by simp [he]
      have e2 : decide (y = (i : Int)) = false := by simp [he]
      clear he hy
      go_wp2_with fail
      go_roundw
      case rel => exact ⟨k + 1, by omega, by go_num, trivial⟩
      case measure => simp [intOf]; omega

theorem DataOwners_row (s a b c i : Int) (w : World) (hs : (Lit.int .u64 s).wf = true) (ha : (Lit.int .i64 a).wf = true) (hb : (Lit.int .i64 b).wf = true) (hc : (Lit.int .i64 c).wf = true) (hi : (Lit.int .i64 i).wf = true) :
    Calls Try.prog 13 #[.agg #[.int .u64 s, .int .i64 a, .int .i64 b, .int .i64 c], .int .i64 i] w fun e w' => e = .returned (.bool true) ∧ Below w.heap.size w w' := by
  obtain ⟨q, rfl, _⟩ := nat_of_u64 hs
  have ba := bounds_i64 ha
  have bc := bounds_i64 hc
  by_cases h1 : 300 < c ∧ c ≤ 4096
  · exact DataOwners_skip q a c i b w h1.1 h1.2
  by_cases h2 : 1 ≤ a ∧ a ≤ 64 ∧ a ≤ c ∧ c ≤ 4096
  · by_cases h3 : i < 0
    · exact DataOwners_no2l q a c i b w (by omega) (by omega) h2 (by omega) h3
    by_cases h4 : c ≤ i
    · exact DataOwners_no2h q a c i b w (by omega) (by omega) h2 (by omega) h3 h4
    obtain ⟨a', rfl⟩ : ∃ m : Nat, a = m := ⟨a.toNat, by omega⟩
    obtain ⟨i', rfl⟩ : ∃ m : Nat, i = m := ⟨i.toNat, by omega⟩
    obtain ⟨c', rfl⟩ : ∃ m : Nat, c = m := ⟨c.toNat, by omega⟩
    exact DataOwners_yes q a' c' i' b w (by omega) (by omega) (by omega) (by omega) (by omega)
  · by_cases h5 : c ≤ 300
    · exact DataOwners_no1s q a c i b w (by omega) (by omega) h2 h5
    · exact DataOwners_no1b q a c i b w (by omega) (by omega) h2 (by omega)
end Go.Proofs.Ytcojiienmmmihaa
