/- Digits: one number as six digits to the base 2^32, and back, of the document. -/
import Derived.Test.YtfpmchhpejncpaaDoorW
namespace Go.Proofs.YtfpmchhpejncpaaDoor
open Go.RowKit
set_option maxRecDepth 100000
set_option linter.unusedVariables false
set_option maxHeartbeats 4000000 in
theorem One64_any (n : Nat) (hn : n < 18446744073709551616) (w : World) : Calls Tryd.prog 34 #[.int .u64 (n : Int), .int .i64 0] w fun e w' => e = .returned (.agg #[.int .u64 (n % 4294967296 : Nat), .int .u64 (n / 4294967296 : Nat), .int .u64 0, .int .u64 0, .int .u64 0, .int .u64 0]) ∧ Below w.heap.size w w' := by
  obtain ⟨a, ha⟩ : ∃ a, a = n % 4294967296 := ⟨_, rfl⟩
  obtain ⟨b, hb⟩ : ∃ b, b = n / 4294967296 := ⟨_, rfl⟩
  have s1 : (n : Int) % 4294967296 = (a : Int) := by omega
  have s2 : (n : Int) / 4294967296 = (b : Int) := by omega
  rw [← ha, ← hb]
  clear ha hb
  go_enter Tryd.func34, Tryd.ntmps34
  go_wp2_with fail
  exact bodyPost_ret (v := .agg #[.int .u64 (a : Int), .int .u64 (b : Int), .int .u64 0, .int .u64 0, .int .u64 0, .int .u64 0]) (by simp [results, Tryd.results34, go_sem]) rfl ⟨rfl, ((Below.refl _ _).alloc (Nat.le_refl _) _).alloc (by simp) _⟩
set_option maxHeartbeats 4000000 in
theorem ClampR_any (a b : Nat) (ha : a < 4294967296) (hb : b < 4294967296) (below : Bool) (w : World) : Calls Tryd.prog 33 #[.agg #[.int .u64 (a : Int), .int .u64 (b : Int), .int .u64 0, .int .u64 0, .int .u64 0, .int .u64 0], .bool below] w fun e w' => e = .returned (.tuple #[.int .i64 (sat (if below then -((b * 4294967296 + a : Nat) : Int) else ((b * 4294967296 + a : Nat) : Int))), .bool (satB (if below then -((b * 4294967296 + a : Nat) : Int) else ((b * 4294967296 + a : Nat) : Int)))]) ∧ Below w.heap.size w w' := by
  obtain ⟨n, hn⟩ : ∃ n, n = b * 4294967296 + a := ⟨_, rfl⟩
  rw [← hn]
  have hn2 : n < 18446744073709551616 := by rw [hn]; omega
  have m1 : IntKind.u64.wrap ((b : Int) * 4294967296) = (b : Int) * 4294967296 := by rw [IntKind.wrap_u64]; omega
  have m2 : (b : Int) * 4294967296 + (a : Int) = (n : Int) := by rw [hn]; omega
  have m3 : IntKind.u64.wrap ((n : Int)) = (n : Int) := by rw [IntKind.wrap_u64]; omega
  clear hn ha hb
  obtain ⟨x, hx⟩ : ∃ x, x = sat (if below then -(n : Int) else (n : Int)) := ⟨_, rfl⟩
  obtain ⟨y, hy⟩ : ∃ y, y = satB (if below then -(n : Int) else (n : Int)) := ⟨_, rfl⟩
  rw [← hx, ← hy]
  have HX := Lib.hid hx; have HY := Lib.hid hy
  clear hx hy
  go_enter Tryd.func33, Tryd.ntmps33
  go_upto_region 1 with fail
  obtain ⟨B, hB⟩ : ∃ B, B = w.heap.size := ⟨_, rfl⟩
  rw [← hB]
  obtain ⟨W1, hW1⟩ : ∃ W1, W1 = w.alloc (.cells #[.int .u64 (a : Int), .int .u64 (b : Int), .int .u64 0, .int .u64 0, .int .u64 0, .int .u64 0] 75) := ⟨_, rfl⟩
  have hh : W1.heap[B]? = some (.cells #[.int .u64 (a : Int), .int .u64 (b : Int), .int .u64 0, .int .u64 0, .int .u64 0, .int .u64 0] 75) := by rw [hW1, hB]; exact alloc_at _ _
  have HBL : Hid (Below w.heap.size w W1) := Lib.hid (by rw [hW1]; exact (Below.refl _ _).alloc (Nat.le_refl _) _)
  rw [← hW1]
  have c0 := cell_of_row W1 B 0 _ _ _ hh
  have c1 := cell_of_row W1 B 1 _ _ _ hh
  have c2 := cell_of_row W1 B 2 _ _ _ hh
  have c3 := cell_of_row W1 B 3 _ _ _ hh
  have c4 := cell_of_row W1 B 4 _ _ _ hh
  have c5 := cell_of_row W1 B 5 _ _ _ hh
  simp only [List.getElem?_toArray, List.getElem?_cons_zero, List.getElem?_cons_succ] at c0 c1 c2 c3 c4 c5
  clear hh hW1 hB
  cases below with
  | true =>
    by_cases h : 9223372036854775808 < n
    · have e1 : x = -9223372036854775808 := by rw [HX.out]; simp only [if_true]; unfold sat; rw [if_pos (by omega)]
      have e2 : y = true := by rw [HY.out]; simp only [if_true]; exact decide_eq_true (by omega)
      have d1 : decide (9223372036854775808 < (n : Int)) = true := decide_eq_true (by omega)
      have E1 := Lib.hid e1; have E2 := Lib.hid e2
      clear e1 e2
      go_wp2_with fail
      go_ret2
      exact ⟨by rw [E1.out, E2.out] <;> rfl, HBL.out⟩
    · have e1 : x = -(n : Int) := by rw [HX.out]; simp only [if_true]; unfold sat; rw [if_neg (by omega), if_neg (by omega)]
      have e2 : y = false := by rw [HY.out]; simp only [if_true]; exact decide_eq_false (by omega)
      have d1 : decide (9223372036854775808 < (n : Int)) = false := decide_eq_false (by omega)
      have m4 : IntKind.i64.wrap (IntKind.u64.wrap (-(n : Int))) = -(n : Int) := by rw [IntKind.wrap_u64, IntKind.wrap_i64]; omega
      have E1 := Lib.hid e1; have E2 := Lib.hid e2
      clear e1 e2
      go_wp2_with fail
      go_ret2
      exact ⟨by rw [E1.out, E2.out] <;> first | rfl | rw [m4], HBL.out⟩
  | false =>
    by_cases h : 9223372036854775808 ≤ n
    · have e1 : x = 9223372036854775807 := by rw [HX.out]; simp only [Bool.false_eq_true, if_false]; unfold sat; rw [if_neg (by omega), if_pos (by omega)]
      have e2 : y = true := by rw [HY.out]; simp only [Bool.false_eq_true, if_false]; exact decide_eq_true (by omega)
      have d1 : decide (9223372036854775808 ≤ (n : Int)) = true := decide_eq_true (by omega)
      have E1 := Lib.hid e1; have E2 := Lib.hid e2
      clear e1 e2
      go_wp2_with fail
      go_ret2
      exact ⟨by rw [E1.out, E2.out] <;> rfl, HBL.out⟩
    · have e1 : x = (n : Int) := by rw [HX.out]; simp only [Bool.false_eq_true, if_false]; unfold sat; rw [if_neg (by omega), if_neg (by omega)]
      have e2 : y = false := by rw [HY.out]; simp only [Bool.false_eq_true, if_false]; exact decide_eq_false (by omega)
      have d1 : decide (9223372036854775808 ≤ (n : Int)) = false := decide_eq_false (by omega)
      have m4 : IntKind.i64.wrap (n : Int) = (n : Int) := by rw [IntKind.wrap_i64]; omega
      have E1 := Lib.hid e1; have E2 := Lib.hid e2
      clear e1 e2
      go_wp2_with fail
      go_ret2
      exact ⟨by rw [E1.out, E2.out] <;> first | rfl | rw [m4], HBL.out⟩
end Go.Proofs.YtfpmchhpejncpaaDoor
