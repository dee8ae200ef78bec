/- Digits: wide numbers. -/
import Derived.Test.YtfpmchhpejncpaaDoorI
import Derived.Test.YtfpmchhpejncpaaDoorK
import Derived.Shelf.Spec.BitsCarry
import Derived.Deep.RegionHeld
namespace Go.Proofs.YtfpmchhpejncpaaDoor
open Go.RowKit
set_option maxRecDepth 100000
set_option linter.unusedVariables false

theorem add64_run (x y c : Int) (hx : 0 ≤ x) (hy : 0 ≤ y) (hc0 : 0 ≤ c) (hc : c ≤ 1) {s q : Int} (hs : (x + y + c) % 18446744073709551616 = s) (hq : (x + y + c) / 18446744073709551616 = q) (w : World) : (callFunc 41 #[.int .u64 x, .int .u64 y, .int .u64 c]).run Tryd.prog w =
      .ok (.value (.tuple #[.int .u64 s, .int .u64 q])) w := by
  subst hs hq
  rw [run_callFunc_extern Tryd.func41 (by kernel_rfl) (by kernel_rfl) (by kernel_rfl) (e := add64Entry) (by kernel_rfl), run_add64 x y c hx hy hc0 hc]
  rfl
theorem sub64_run (x y c : Int) (hx : 0 ≤ x) (hx2 : x < 18446744073709551616) (hy : 0 ≤ y) (hy2 : y < 18446744073709551616) (hc0 : 0 ≤ c) (hc : c ≤ 1) {s q : Int} (hs : (x - y - c) % 18446744073709551616 = s) (hq : -((x - y - c) / 18446744073709551616) = q) (w : World) : (callFunc 50 #[.int .u64 x, .int .u64 y, .int .u64 c]).run Tryd.prog w =
      .ok (.value (.tuple #[.int .u64 s, .int .u64 q])) w := by
  obtain ⟨X, rfl⟩ := Int.eq_ofNat_of_zero_le hx
  obtain ⟨Y, rfl⟩ := Int.eq_ofNat_of_zero_le hy
  obtain ⟨C, rfl⟩ := Int.eq_ofNat_of_zero_le hc0
  rw [run_callFunc_extern Tryd.func50 (by kernel_rfl) (by kernel_rfl) (by kernel_rfl) (e := sub64Entry) (by kernel_rfl), run_sub64 X Y C (by omega)]
  have e1 : (((X + 18446744073709551616 - Y - C) % 18446744073709551616 : Nat) : Int) = s := by rw [← hs]; omega
  have e2 : ((if X < Y + C then 1 else 0 : Nat) : Int) = q := by rw [← hq]; split <;> omega
  rw [e1, e2]
  rfl
/-- A wide number. -/
def wideZ (T : Int) : Value := .agg #[.int .i64 (T / 18446744073709551616), .int .u64 (T % 18446744073709551616)]
theorem wideZ_nat {n : Nat} (h : n < 18446744073709551616) : wideZ n = .agg #[.int .i64 0, .int .u64 (n : Int)] := by
  unfold wideZ
  rw [Int.ediv_eq_zero_of_lt (by omega) (by omega), Int.emod_eq_of_lt (by omega) (by omega)]
theorem wideZ_of {T hi lo : Int} (h : T = hi * 18446744073709551616 + lo) (h0 : 0 ≤ lo) (h1 : lo < 18446744073709551616) : wideZ T = .agg #[.int .i64 hi, .int .u64 lo] := by
  unfold wideZ
  rw [show T / 18446744073709551616 = hi by omega, show T % 18446744073709551616 = lo by omega]
theorem wideZ_ex (T : Int) : ∃ hi lo : Int, wideZ T = .agg #[.int .i64 hi, .int .u64 lo] ∧ T = hi * 18446744073709551616 + lo ∧ 0 ≤ lo ∧ lo < 18446744073709551616 :=
  ⟨_, _, rfl, by omega, by omega, by omega⟩
set_option maxHeartbeats 4000000 in
theorem Of_any (n : Nat) (h : n < 9223372036854775808) (w : World) : Calls Tryd.prog 27 #[.int .i64 (n : Int)] w fun e w' => e = .returned (wideZ n) ∧ Below w.heap.size w w' := by
  rw [wideZ_nat (by omega)]
  have t1 : (n : Int) / 9223372036854775808 = 0 := by omega
  go_enter Tryd.func27, Tryd.ntmps27
  go_wp2_with fail
  exact bodyPost_ret (v := .agg #[.int .i64 0, .int .u64 (n : Int)]) (by simp [results, Tryd.results27, go_sem]) rfl ⟨rfl, (Below.refl _ _).alloc (Nat.le_refl _) _⟩
theorem below_three2 (w : World) (a b c : Obj) : Below w.heap.size w (((w.alloc a).alloc b).alloc c) := (((Below.refl _ _).alloc (Nat.le_refl _) _).alloc (by simp) _).alloc (by simp; omega) _
set_option maxHeartbeats 4000000 in
theorem Add_any (A B : Int) (hA : -(2^100) ≤ A ∧ A < 2^100) (hB : -(2^100) ≤ B ∧ B < 2^100) (w : World) : Calls Tryd.prog 25 #[wideZ A, wideZ B] w fun e w' => e = .returned (wideZ (A + B)) ∧ ∃ a b c, w' = ((w.alloc a).alloc b).alloc c := by
  obtain ⟨h1, l1, e1, f1, g1, k1⟩ := wideZ_ex A
  obtain ⟨h2, l2, e2, f2, g2, k2⟩ := wideZ_ex B
  obtain ⟨h3, l3, e3, f3, g3, k3⟩ := wideZ_ex (A + B)
  have p100 : (2 : Int) ^ 100 = 1267650600228229401496703205376 := by decide
  rw [p100] at hA hB
  rw [e1, e2, e3]
  obtain ⟨c, hc⟩ : ∃ c, (l1 + l2 + 0) / 18446744073709551616 = c := ⟨_, rfl⟩
  obtain ⟨u1, hu1⟩ : ∃ u, h1 % 18446744073709551616 = u := ⟨_, rfl⟩
  obtain ⟨u2, hu2⟩ : ∃ u, h2 % 18446744073709551616 = u := ⟨_, rfl⟩
  obtain ⟨u3, hu3⟩ : ∃ u, (u1 + u2 + c) % 18446744073709551616 = u := ⟨_, rfl⟩
  have a1 := add64_run l1 l2 0 g1 g2 (by omega) (by omega) (s := l3) (q := c) (by omega) hc
  have a2 := add64_run u1 u2 c (by omega) (by omega) (by omega) (by omega) (s := u3) hu3 rfl
  have t1 : IntKind.u64.wrap h1 = u1 := by rw [IntKind.wrap_u64]; exact hu1
  have t2 : IntKind.u64.wrap h2 = u2 := by rw [IntKind.wrap_u64]; exact hu2
  have t3 : IntKind.i64.wrap u3 = h3 := by rw [IntKind.wrap_i64]; omega
  obtain ⟨cc, hcc⟩ : ∃ cc, (u1 + u2 + c) / 18446744073709551616 = cc := ⟨_, rfl⟩
  rw [hcc] at a2
  clear e1 e2 e3 f1 f2 f3 hc hu1 hu2 hu3 hcc hA hB
  go_enter Tryd.func25, Tryd.ntmps25
  go_wp2_with fail
  exact bodyPost_ret (v := .agg #[.int .i64 h3, .int .u64 l3]) (by simp [results, Tryd.results25, go_sem]) rfl ⟨rfl, _, _, _, rfl⟩
set_option maxHeartbeats 4000000 in
theorem Sub_any (A B : Int) (hA : -(2^100) ≤ A ∧ A < 2^100) (hB : -(2^100) ≤ B ∧ B < 2^100) (w : World) : Calls Tryd.prog 42 #[wideZ A, wideZ B] w fun e w' => e = .returned (wideZ (A - B)) ∧ ∃ a b c, w' = ((w.alloc a).alloc b).alloc c := by
  obtain ⟨h1, l1, e1, f1, g1, k1⟩ := wideZ_ex A
  obtain ⟨h2, l2, e2, f2, g2, k2⟩ := wideZ_ex B
  obtain ⟨h3, l3, e3, f3, g3, k3⟩ := wideZ_ex (A - B)
  have p100 : (2 : Int) ^ 100 = 1267650600228229401496703205376 := by decide
  rw [p100] at hA hB
  rw [e1, e2, e3]
  obtain ⟨c, hc⟩ : ∃ c, -((l1 - l2 - 0) / 18446744073709551616) = c := ⟨_, rfl⟩
  obtain ⟨u1, hu1⟩ : ∃ u, h1 % 18446744073709551616 = u := ⟨_, rfl⟩
  obtain ⟨u2, hu2⟩ : ∃ u, h2 % 18446744073709551616 = u := ⟨_, rfl⟩
  obtain ⟨u3, hu3⟩ : ∃ u, (u1 - u2 - c) % 18446744073709551616 = u := ⟨_, rfl⟩
  have a1 := sub64_run l1 l2 0 g1 k1 g2 k2 (by omega) (by omega) (s := l3) (q := c) (by omega) hc
  have a2 := sub64_run u1 u2 c (by omega) (by omega) (by omega) (by omega) (by omega) (by omega) (s := u3) hu3 rfl
  have t1 : IntKind.u64.wrap h1 = u1 := by rw [IntKind.wrap_u64]; exact hu1
  have t2 : IntKind.u64.wrap h2 = u2 := by rw [IntKind.wrap_u64]; exact hu2
  have t3 : IntKind.i64.wrap u3 = h3 := by rw [IntKind.wrap_i64]; omega
  obtain ⟨cc, hcc⟩ : ∃ cc, -((u1 - u2 - c) / 18446744073709551616) = cc := ⟨_, rfl⟩
  rw [hcc] at a2
  clear e1 e2 e3 f1 f2 f3 hc hu1 hu2 hu3 hcc hA hB
  go_enter Tryd.func42, Tryd.ntmps42
  go_wp2_with fail
  exact bodyPost_ret (v := .agg #[.int .i64 h3, .int .u64 l3]) (by simp [results, Tryd.results42, go_sem]) rfl ⟨rfl, _, _, _, rfl⟩
theorem below_five (w : World) (a b c d e : Obj) : Below w.heap.size w (((((w.alloc a).alloc b).alloc c).alloc d).alloc e) := ((below_three2 w a b c).alloc (by simp; omega) _).alloc (by simp; omega) _
set_option maxHeartbeats 4000000 in
theorem Neg_any (A : Int) (hA : -(2^100) ≤ A ∧ A < 2^100) (w : World) : Calls Tryd.prog 29 #[wideZ A] w fun e w' => e = .returned (wideZ (-A)) ∧ Below w.heap.size w w' := by
  have HS := Lib.hid (Sub_any 0 A (by decide) hA)
  rw [Int.zero_sub] at HS
  obtain ⟨h1, l1, e1, f1, g1, k1⟩ := wideZ_ex A
  obtain ⟨h3, l3, e3, f3, g3, k3⟩ := wideZ_ex (-A)
  have e0 : wideZ 0 = .agg #[.int .i64 0, .int .u64 0] := rfl
  rw [e1, e3, e0] at HS
  rw [e1, e3]
  clear e1 e3 e0 hA f1 f3
  go_enter Tryd.func29, Tryd.ntmps29
  go_wp2_with fail
  refine (HS.out _).mono ?_
  rintro e w1 ⟨rfl, o1, o2, o3, rfl⟩
  go_wp2_with fail
  exact bodyPost_ret (v := .agg #[.int .i64 h3, .int .u64 l3]) (by simp [results, Tryd.results29, go_sem]) rfl ⟨rfl, below_five _ _ _ _ _ _⟩
theorem i64_or_zero (k : Nat) (h : k ≤ 256) : bits BinOp.or IntKind.i64 0 (k : Int) = (k : Int) := by
  have : ∀ k : Fin 257, bits BinOp.or IntKind.i64 0 ((k.1 : Nat) : Int) = ((k.1 : Nat) : Int) := by decide +kernel
  exact this ⟨k, by omega⟩
set_option maxHeartbeats 4000000 in
theorem Shl_any (n : Nat) (h : n ≤ 1099511627776) (w : World) : Calls Tryd.prog 26 #[wideZ n, .int .i64 32] w fun e w' => e = .returned (wideZ (n * 4294967296)) ∧ Below w.heap.size w w' := by
  obtain ⟨h3, l3, e3, f3, g3, k3⟩ := wideZ_ex ((n : Int) * 4294967296)
  rw [wideZ_nat (by omega), e3]
  have w32 : IntKind.i64.wrap 32 = 32 := rfl
  have w0 : IntKind.i64.wrap 0 = 0 := rfl
  have t1 : (n : Int) / 4294967296 = h3 := by omega
  have t2 : IntKind.i64.wrap h3 = h3 := by rw [IntKind.wrap_i64]; omega
  have t3 : IntKind.u64.wrap ((n : Int) * 4294967296) = l3 := by rw [IntKind.wrap_u64]; omega
  have t4 : bits BinOp.or IntKind.i64 0 h3 = h3 := by
    obtain ⟨k, rfl⟩ := Int.eq_ofNat_of_zero_le (show 0 ≤ h3 by omega)
    exact i64_or_zero k (by omega)
  clear f3 e3
  go_enter Tryd.func26, Tryd.ntmps26
  go_wp2_with fail
  go_region_held (fun W => W.cell? ⟨w.heap.size, 0, none⟩ = some (.int .i64 0) ∧ W.cell? ⟨w.heap.size, 1, none⟩ = some (.int .u64 (n : Int))) (go_keep) (fail)
  go_wp2_with fail
  exact bodyPost_ret (v := .agg #[.int .i64 h3, .int .u64 l3]) (by simp [results, Tryd.results26, go_sem]) rfl ⟨rfl, (((Below.refl _ _).alloc (Nat.le_refl _) _).alloc (by simp) _).drew⟩
/-- The number that 64 bits hold. -/
def sat (T : Int) : Int := if T < -9223372036854775808 then -9223372036854775808 else if 9223372036854775807 < T then 9223372036854775807 else T
def satB (T : Int) : Bool := decide (T < -9223372036854775808 ∨ 9223372036854775807 < T)
set_option maxHeartbeats 4000000 in
theorem Clamp_any (T : Int) (hT : -(2^100) ≤ T ∧ T < 2^100) (w : World) : Calls Tryd.prog 30 #[wideZ T] w fun e w' => e = .returned (.tuple #[.int .i64 (sat T), .bool (satB T)]) ∧ Below w.heap.size w w' := by
  obtain ⟨h1, l1, e1, f1, g1, k1⟩ := wideZ_ex T
  have p100 : (2 : Int) ^ 100 = 1267650600228229401496703205376 := by decide
  rw [p100] at hT
  rw [e1]
  clear e1
  obtain ⟨x, hx⟩ : ∃ x, IntKind.i64.wrap l1 = x := ⟨_, rfl⟩
  have hx2 := hx
  rw [IntKind.wrap_i64] at hx2
  obtain ⟨y, hy⟩ : ∃ y, x / 9223372036854775808 = y := ⟨_, rfl⟩
  by_cases hr : h1 = y
  · have d : (h1 == y) = true := by simp [hr]
    have hs1 : sat T = x := by unfold sat; split; omega; split; omega; omega
    have hs2 : satB T = false := by unfold satB; exact decide_eq_false (by omega)
    rw [hs1, hs2]
    clear hs1 hs2 hx2 f1
    go_enter Tryd.func30, Tryd.ntmps30
    go_wp2_with fail
    go_ret2
    exact ⟨rfl, (Below.refl _ _).alloc (Nat.le_refl _) _⟩
  · have d : (h1 == y) = false := by simp [hr]
    by_cases h0 : h1 < 0
    · have d2 : decide (h1 < 0) = true := decide_eq_true h0
      have hs1 : sat T = -9223372036854775808 := by unfold sat; split; rfl; omega
      have hs2 : satB T = true := by unfold satB; exact decide_eq_true (by omega)
      rw [hs1, hs2]
      clear hs1 hs2 hx2 f1
      go_enter Tryd.func30, Tryd.ntmps30
      go_wp2_with fail
      go_ret2
      exact ⟨rfl, (Below.refl _ _).alloc (Nat.le_refl _) _⟩
    · have d2 : decide (h1 < 0) = false := decide_eq_false h0
      have hs1 : sat T = 9223372036854775807 := by unfold sat; split; omega; split; rfl; omega
      have hs2 : satB T = true := by unfold satB; exact decide_eq_true (by omega)
      rw [hs1, hs2]
      clear hs1 hs2 hx2 f1
      go_enter Tryd.func30, Tryd.ntmps30
      go_wp2_with fail
      go_ret2
      exact ⟨rfl, (Below.refl _ _).alloc (Nat.le_refl _) _⟩
end Go.Proofs.YtfpmchhpejncpaaDoor
