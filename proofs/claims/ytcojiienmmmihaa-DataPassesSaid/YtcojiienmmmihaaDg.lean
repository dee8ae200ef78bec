/- Walks: the reference's Right, the law DataOwns. -/
import Derived.Test.YtcojiienmmmihaaDf
namespace Go.Proofs.Ytcojiienmmmihaa
open Go.RowKit Go.Joins Go.Shelf
set_option maxRecDepth 100000
set_option linter.unusedVariables false

theorem Right_any (a n : Int) (w : World) : Calls Try.prog 32 #[.int .i64 a, .int .i64 n] w fun e w' => e = .returned (.bool (decide (1 ≤ a ∧ a ≤ 64 ∧ a ≤ n ∧ n ≤ 4096))) ∧ w' = w := by
  by_cases h1 : (1 : Int) ≤ a
  · have d1 := decide_eq_true h1
    by_cases h2 : a ≤ (64 : Int)
    · have d2 := decide_eq_true h2
      by_cases h3 : a ≤ n
      · have d3 := decide_eq_true h3
        by_cases h4 : n ≤ (4096 : Int)
        · have d4 := decide_eq_true h4
          rw [decide_eq_true (by omega)]
          go_enter Try.func32, Try.ntmps32
          go_wp2_with fail
          go_ret
          exact ⟨rfl, rfl⟩
        · have d4 := decide_eq_false h4
          rw [decide_eq_false (by omega)]
          go_enter Try.func32, Try.ntmps32
          go_wp2_with fail
          go_ret
          exact ⟨rfl, rfl⟩
      · have d3 := decide_eq_false h3
        rw [decide_eq_false (by omega)]
        go_enter Try.func32, Try.ntmps32
        go_wp2_with fail
        go_ret
        exact ⟨rfl, rfl⟩
    · have d2 := decide_eq_false h2
      rw [decide_eq_false (by omega)]
      go_enter Try.func32, Try.ntmps32
      go_wp2_with fail
      go_ret
      exact ⟨rfl, rfl⟩
  · have d1 := decide_eq_false h1
    rw [decide_eq_false (by omega)]
    go_enter Try.func32, Try.ntmps32
    go_wp2_with fail
    go_ret
    exact ⟨rfl, rfl⟩

set_option maxHeartbeats 2000000 in
theorem DataOwns_skip (s : Nat) (a b c : Int) (w : World) (h1 : 300 < c) (h2 : c ≤ 4096) : Calls Try.prog 10 #[.agg #[.int .u64 (s : Int), .int .i64 a, .int .i64 b, .int .i64 c]] w (Yes w) := by
  have d1 := decide_eq_true h1
  have d2 := decide_eq_true h2
  go_enter Try.func10, Try.ntmps10
  go_wp2_with fail
  refine (awake6_any _).mono ?_
  rintro e w1 ⟨rfl, hb1⟩
  have hB1 : Below (w.heap.size + 1) (w.alloc (Obj.cells #[.int .u64 (s : Int), .int .i64 a, .int .i64 b, .int .i64 c] 51)) w1 := hb1.mono (by simp)
  have hs1 := Below.le hB1 (by simp)
  clear hb1
  obtain ⟨k0, k1, k2, k3⟩ := key_cells hB1
  go_wp2_with fail
  go_ret
  exact ⟨rfl, ((Below.refl _ _).alloc (Nat.le_refl _) _).trans (hB1.mono (by omega))⟩

set_option maxHeartbeats 2000000 in
theorem DataOwns_no1s (s : Nat) (a b c : Int) (w : World) (ha : -9223372036854775808 ≤ a ∧ a ≤ 9223372036854775807) (hb : -9223372036854775808 ≤ b ∧ b ≤ 9223372036854775807) (hc : -9223372036854775808 ≤ c ∧ c ≤ 9223372036854775807) (hn : ¬ (1 ≤ a ∧ a ≤ 64 ∧ a ≤ c ∧ c ≤ 4096)) (h1 : c ≤ 300) : Calls Try.prog 10 #[.agg #[.int .u64 (s : Int), .int .i64 a, .int .i64 b, .int .i64 c]] w (Yes w) := by
  have d1 : decide ((300 : Int) < c) = false := decide_eq_false (by omega)
  have HD := Lib.hid (decide_eq_false hn)
  go_enter Try.func10, Try.ntmps10
  go_wp2_with fail
  refine (awake6_any _).mono ?_
  rintro e w1 ⟨rfl, hb1⟩
  have hB1 : Below (w.heap.size + 1) (w.alloc (Obj.cells #[.int .u64 (s : Int), .int .i64 a, .int .i64 b, .int .i64 c] 51)) w1 := hb1.mono (by simp)
  have hs1 := Below.le hB1 (by simp)
  clear hb1
  obtain ⟨k0, k1, k2, k3⟩ := key_cells hB1
  go_wp2_with fail
  refine (Own_no1 s a b c _ ha hc hn).mono ?_
  rintro e w2 ⟨rfl, hb2⟩
  have hB2 := after_call hB1 hs1 hb2
  have hs2 := Below.le hB2 (by simp)
  clear hb2 hB1 hs1 k0 k1 k2 k3
  obtain ⟨k0, k1, k2, k3⟩ := key_cells hB2
  go_wp2_with fail
  refine (Right_any _ _ _).mono ?_
  rintro e w3 ⟨rfl, rfl⟩
  rw [HD.out]
  go_wp2_with fail
  go_ret
  exact ⟨rfl, ((Below.refl _ _).alloc (Nat.le_refl _) _).trans (hB2.mono (by omega))⟩

set_option maxHeartbeats 2000000 in
theorem DataOwns_no1b (s : Nat) (a b c : Int) (w : World) (ha : -9223372036854775808 ≤ a ∧ a ≤ 9223372036854775807) (hb : -9223372036854775808 ≤ b ∧ b ≤ 9223372036854775807) (hc : -9223372036854775808 ≤ c ∧ c ≤ 9223372036854775807) (hn : ¬ (1 ≤ a ∧ a ≤ 64 ∧ a ≤ c ∧ c ≤ 4096)) (h1 : 4096 < c) : Calls Try.prog 10 #[.agg #[.int .u64 (s : Int), .int .i64 a, .int .i64 b, .int .i64 c]] w (Yes w) := by
  have d1 : decide ((300 : Int) < c) = true := decide_eq_true (by omega)
  have d2 : decide (c ≤ (4096 : Int)) = false := decide_eq_false (by omega)
  have HD := Lib.hid (decide_eq_false hn)
  go_enter Try.func10, Try.ntmps10
  go_wp2_with fail
  refine (awake6_any _).mono ?_
  rintro e w1 ⟨rfl, hb1⟩
  have hB1 : Below (w.heap.size + 1) (w.alloc (Obj.cells #[.int .u64 (s : Int), .int .i64 a, .int .i64 b, .int .i64 c] 51)) w1 := hb1.mono (by simp)
  have hs1 := Below.le hB1 (by simp)
  clear hb1
  obtain ⟨k0, k1, k2, k3⟩ := key_cells hB1
  go_wp2_with fail
  refine (Own_no1 s a b c _ ha hc hn).mono ?_
  rintro e w2 ⟨rfl, hb2⟩
  have hB2 := after_call hB1 hs1 hb2
  have hs2 := Below.le hB2 (by simp)
  clear hb2 hB1 hs1 k0 k1 k2 k3
  obtain ⟨k0, k1, k2, k3⟩ := key_cells hB2
  go_wp2_with fail
  refine (Right_any _ _ _).mono ?_
  rintro e w3 ⟨rfl, rfl⟩
  rw [HD.out]
  go_wp2_with fail
  go_ret
  exact ⟨rfl, ((Below.refl _ _).alloc (Nat.le_refl _) _).trans (hB2.mono (by omega))⟩

set_option maxHeartbeats 2000000 in
theorem DataOwns_no2l (s : Nat) (a b c : Int) (w : World) (ha : -9223372036854775808 ≤ a ∧ a ≤ 9223372036854775807) (hb : -9223372036854775808 ≤ b ∧ b ≤ 9223372036854775807) (hc : -9223372036854775808 ≤ c ∧ c ≤ 9223372036854775807) (hq : 1 ≤ a ∧ a ≤ 64 ∧ a ≤ c ∧ c ≤ 4096) (h1 : c ≤ 300) (h2 : b < 0) : Calls Try.prog 10 #[.agg #[.int .u64 (s : Int), .int .i64 a, .int .i64 b, .int .i64 c]] w (Yes w) := by
  have d2 := decide_eq_true h2
  have d1 : decide ((300 : Int) < c) = false := decide_eq_false (by omega)
  have HD := Lib.hid (decide_eq_true hq)
  go_enter Try.func10, Try.ntmps10
  go_wp2_with fail
  refine (awake6_any _).mono ?_
  rintro e w1 ⟨rfl, hb1⟩
  have hB1 : Below (w.heap.size + 1) (w.alloc (Obj.cells #[.int .u64 (s : Int), .int .i64 a, .int .i64 b, .int .i64 c] 51)) w1 := hb1.mono (by simp)
  have hs1 := Below.le hB1 (by simp)
  clear hb1
  obtain ⟨k0, k1, k2, k3⟩ := key_cells hB1
  go_wp2_with fail
  refine (Own_no2 s a b c _ hq (by omega)).mono ?_
  rintro e w2 ⟨rfl, hb2⟩
  have hB2 := after_call hB1 hs1 hb2
  have hs2 := Below.le hB2 (by simp)
  clear hb2 hB1 hs1 k0 k1 k2 k3
  obtain ⟨k0, k1, k2, k3⟩ := key_cells hB2
  go_wp2_with fail
  refine (Right_any _ _ _).mono ?_
  rintro e w3 ⟨rfl, rfl⟩
  rw [HD.out]
  go_wp2_with fail
  go_ret
  exact ⟨rfl, ((Below.refl _ _).alloc (Nat.le_refl _) _).trans (hB2.mono (by omega))⟩

set_option maxHeartbeats 2000000 in
theorem DataOwns_no2h (s : Nat) (a b c : Int) (w : World) (ha : -9223372036854775808 ≤ a ∧ a ≤ 9223372036854775807) (hb : -9223372036854775808 ≤ b ∧ b ≤ 9223372036854775807) (hc : -9223372036854775808 ≤ c ∧ c ≤ 9223372036854775807) (hq : 1 ≤ a ∧ a ≤ 64 ∧ a ≤ c ∧ c ≤ 4096) (h1 : c ≤ 300) (h2 : ¬ b < 0) (h3 : a ≤ b) : Calls Try.prog 10 #[.agg #[.int .u64 (s : Int), .int .i64 a, .int .i64 b, .int .i64 c]] w (Yes w) := by
  have d2 := decide_eq_false h2
  have d3 := decide_eq_true h3
  have d1 : decide ((300 : Int) < c) = false := decide_eq_false (by omega)
  have HD := Lib.hid (decide_eq_true hq)
  go_enter Try.func10, Try.ntmps10
  go_wp2_with fail
  refine (awake6_any _).mono ?_
  rintro e w1 ⟨rfl, hb1⟩
  have hB1 : Below (w.heap.size + 1) (w.alloc (Obj.cells #[.int .u64 (s : Int), .int .i64 a, .int .i64 b, .int .i64 c] 51)) w1 := hb1.mono (by simp)
  have hs1 := Below.le hB1 (by simp)
  clear hb1
  obtain ⟨k0, k1, k2, k3⟩ := key_cells hB1
  go_wp2_with fail
  refine (Own_no2 s a b c _ hq (by omega)).mono ?_
  rintro e w2 ⟨rfl, hb2⟩
  have hB2 := after_call hB1 hs1 hb2
  have hs2 := Below.le hB2 (by simp)
  clear hb2 hB1 hs1 k0 k1 k2 k3
  obtain ⟨k0, k1, k2, k3⟩ := key_cells hB2
  go_wp2_with fail
  refine (Right_any _ _ _).mono ?_
  rintro e w3 ⟨rfl, rfl⟩
  rw [HD.out]
  go_wp2_with fail
  go_ret
  exact ⟨rfl, ((Below.refl _ _).alloc (Nat.le_refl _) _).trans (hB2.mono (by omega))⟩

set_option maxHeartbeats 2000000 in
theorem DataOwns_yes (s a b c : Nat) (w : World) (h0 : 1 ≤ a) (h1 : a ≤ 64) (h2 : a ≤ c) (h3 : c ≤ 300) (h4 : b < a) : Calls Try.prog 10 #[.agg #[.int .u64 (s : Int), .int .i64 (a : Int), .int .i64 (b : Int), .int .i64 (c : Int)]] w (Yes w) := by
  have d1 : decide ((300 : Int) < (c : Int)) = false := decide_eq_false (by omega)
  have d2 : decide ((b : Int) < 0) = false := decide_eq_false (by omega)
  have d3 : decide ((a : Int) ≤ (b : Int)) = false := decide_eq_false (by omega)
  have HD := Lib.hid (decide_eq_true (show (1 : Int) ≤ (a : Int) ∧ (a : Int) ≤ 64 ∧ (a : Int) ≤ (c : Int) ∧ (c : Int) ≤ 4096 by omega))
  go_enter Try.func10, Try.ntmps10
  go_wp2_with fail
  refine (awake6_any _).mono ?_
  rintro e w1 ⟨rfl, hb1⟩
  have hB1 : Below (w.heap.size + 1) (w.alloc (Obj.cells #[.int .u64 (s : Int), .int .i64 a, .int .i64 b, .int .i64 c] 51)) w1 := hb1.mono (by simp)
  have hs1 := Below.le hB1 (by simp)
  clear hb1
  obtain ⟨k0, k1, k2, k3⟩ := key_cells hB1
  go_wp2_with fail
  refine (Own_yes s a b c _ h0 h1 h2 (by omega) h4).mono ?_
  rintro e w2 ⟨v2, rfl, hrow2, hb2⟩
  have hB2 := after_call hB1 hs1 hb2
  have hs2 := Below.le hB2 (by simp)
  have hrd := Reads.of_owns hrow2
  clear hb2 hB1 hs1 k0 k1 k2 k3
  obtain ⟨k0, k1, k2, k3⟩ := key_cells hB2
  have hll : (M.own s a c b).length ≤ 4096 := by rw [M.own_length]; have := M.beg_le (n := c) h0 (show b + 1 ≤ a by omega); omega
  obtain ⟨L, hL⟩ : ∃ L, L = M.own s a c b := ⟨_, rfl⟩
  have HL := Lib.hid hL
  rw [← hL] at hrd hll
  clear hL hrow2
  have HRD := Lib.hid hrd
  clear hrd
  go_wp2_with fail
  refine (Right_any _ _ _).mono ?_
  rintro e w3 ⟨rfl, rfl⟩
  rw [HD.out]
  go_wp2_with fail
  refine (rOwn_yes s a b c _ h0 h1 h2 (by omega) h4).mono ?_
  rintro e w4 ⟨v4, rfl, hrd4, hb4⟩
  rw [← HL.out] at hrd4
  have hB4 := after_call hB2 hs2 hb4
  have hs4 := Below.le hB4 (by simp)
  have hrd2 := HRD.out.below hb4
  clear hb4 hB2 hs2 k0 k1 k2 k3
  have HR2 := Lib.hid hrd2
  have HR4 := Lib.hid hrd4
  clear hrd2 hrd4
  go_wp2_with fail
  refine (Same_any _ _ L L _ HR2.out HR4.out (by unfold maxLen; omega) (by unfold maxLen; omega)).mono ?_
  rintro e w5 ⟨rfl, hb5⟩
  rw [decide_eq_true (rfl : L = L)]
  have hB5 := after_call hB4 hs4 hb5
  go_wp2_with fail
  go_ret
  exact ⟨rfl, ((Below.refl _ _).alloc (Nat.le_refl _) _).trans (hB5.mono (by omega))⟩


theorem DataOwns_row (s a b c : Int) (w : World) (hs : (Lit.int .u64 s).wf = true) (ha : (Lit.int .i64 a).wf = true) (hb : (Lit.int .i64 b).wf = true) (hc : (Lit.int .i64 c).wf = true) :
    Calls Try.prog 10 #[.agg #[.int .u64 s, .int .i64 a, .int .i64 b, .int .i64 c]] w fun e w' => e = .returned (.bool true) ∧ Below w.heap.size w w' := by
  obtain ⟨q, rfl, _⟩ := nat_of_u64 hs
  have ba := bounds_i64 ha
  have bb := bounds_i64 hb
  have bc := bounds_i64 hc
  by_cases h1 : 300 < c ∧ c ≤ 4096
  · exact DataOwns_skip q a b c w h1.1 h1.2
  by_cases h2 : 1 ≤ a ∧ a ≤ 64 ∧ a ≤ c ∧ c ≤ 4096
  · by_cases h3 : b < 0
    · exact DataOwns_no2l q a b c w (by omega) (by omega) (by omega) h2 (by omega) h3
    by_cases h4 : a ≤ b
    · exact DataOwns_no2h q a b c w (by omega) (by omega) (by omega) h2 (by omega) h3 h4
    obtain ⟨a', rfl⟩ : ∃ m : Nat, a = m := ⟨a.toNat, by omega⟩
    obtain ⟨b', rfl⟩ : ∃ m : Nat, b = m := ⟨b.toNat, by omega⟩
    obtain ⟨c', rfl⟩ : ∃ m : Nat, c = m := ⟨c.toNat, by omega⟩
    exact DataOwns_yes q a' b' c' w (by omega) (by omega) (by omega) (by omega) (by omega)
  · by_cases h5 : c ≤ 300
    · exact DataOwns_no1s q a b c w (by omega) (by omega) (by omega) h2 h5
    · exact DataOwns_no1b q a b c w (by omega) (by omega) (by omega) h2 (by omega)
end Go.Proofs.Ytcojiienmmmihaa
