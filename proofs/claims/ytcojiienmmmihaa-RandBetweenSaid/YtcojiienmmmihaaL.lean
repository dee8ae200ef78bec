/- Walks: wide numbers; Part and Between of both texts. -/
import Derived.Test.YtcojiienmmmihaaF
import Derived.Test.YtcojiienmmmihaaKit
import Derived.Laws.Externs
namespace Go.Proofs.Ytcojiienmmmihaa
open Go.RowKit Go.Joins
set_option maxRecDepth 100000
set_option linter.unusedVariables false

theorem wrap_u64_eq (n : Int) : IntKind.u64.wrap n = ((M.u64 n : Nat) : Int) := by rw [IntKind.wrap_u64, M.u64_cast]

theorem Of_any (n : Int) (w : World) (h0 : -9223372036854775808 ≤ n) (h1 : n ≤ 9223372036854775807) :
    Calls Try.prog 47 #[.int .i64 n] w fun e w' => e = .returned (.agg #[.int .i64 (n / 9223372036854775808), .int .u64 (M.u64 n : Nat)]) ∧ Below w.heap.size w w' := by
  go_enter Try.func47, Try.ntmps47
  go_wp2_with fail
  rw [wrap_u64_eq]
  exact bodyPost_ret (by simp [results, Try.results47, go_sem]) rfl ⟨rfl, (Below.refl _ _).alloc (Nat.le_refl _) _⟩

theorem or_form (hi lo : Nat) (h0 : hi < 4294967296) (h1 : lo < 18446744073709551616) : bits .or .u64 ((lo : Int) / 4294967296) ((hi : Int) * 4294967296) = ((hi * 4294967296 + lo / 4294967296 : Nat) : Int) := by
  have e1 : (lo : Int) / 4294967296 = ((lo / 4294967296 : Nat) : Int) := by omega
  have e2 : (hi : Int) * 4294967296 = ((hi * 4294967296 : Nat) : Int) := by omega
  rw [e1, e2, bits_or_u64_nat _ _ (by omega) (by omega)]
  congr 1
  rw [Nat.or_comm]
  have := Nat.two_pow_add_eq_or_of_lt (i := 32) (b := lo / 4294967296) (by omega) hi
  rw [show hi * 4294967296 = 2 ^ 32 * hi by omega]
  omega

set_option maxHeartbeats 1000000 in
theorem Shr_any (hi lo : Nat) (w : World) (h0 : hi < 4294967296) (h1 : lo < 18446744073709551616) :
    Calls Try.prog 46 #[.agg #[.int .i64 (hi : Int), .int .u64 (lo : Int)], .int .i64 32] w fun e w' => e = .returned (.agg #[.int .i64 0, .int .u64 ((hi * 4294967296 + lo / 4294967296 : Nat) : Int)]) ∧ Below w.heap.size w w' := by
  have ho := Lib.hid (or_form hi lo h0 h1)
  go_enter Try.func46, Try.ntmps46
  go_wp2_with fail
  go_region
  all_goals
    go_wp2_with fail
    rw [ho.out, show (hi : Int) / 4294967296 = 0 from by omega]
    exact bodyPost_ret (by simp [results, Try.results46, go_sem]) rfl ⟨rfl, Below.drew (((Below.refl _ _).alloc (Nat.le_refl _) _).alloc (by simp) _)⟩

theorem clamp_form (n : Int) (h0 : -9223372036854775808 ≤ n) (h1 : n ≤ 9223372036854775807) : wrap64 ((M.u64 n : Nat) : Int) = n := by
  rw [M.u64_cast]; unfold wrap64; omega

theorem Clamp_any (n : Int) (w : World) (h0 : -9223372036854775808 ≤ n) (h1 : n ≤ 9223372036854775807) :
    Calls Try.prog 44 #[.agg #[.int .i64 (n / 9223372036854775808), .int .u64 (M.u64 n : Nat)]] w fun e w' => e = .returned (.tuple #[.int .i64 n, .bool false]) ∧ Below w.heap.size w w' := by
  have e := clamp_form n h0 h1
  go_enter Try.func44, Try.ntmps44
  go_wp2_with fail
  go_ret2
  refine ⟨?_, (Below.refl _ _).alloc (Nat.le_refl _) _⟩
  show Ending.returned (.tuple #[.int .i64 (wrap64 ((M.u64 n : Nat) : Int)), .bool false]) = _
  rw [clamp_form n h0 h1]

theorem Try.add64 (x y c : Int) (hx : 0 ≤ x) (hy : 0 ≤ y) (hc0 : 0 ≤ c) (hc : c ≤ 1) (w : World) :
    (callFunc 58 #[.int .u64 x, .int .u64 y, .int .u64 c]).run Try.prog w = .ok (.value (.tuple #[.int .u64 ((x + y + c) % 18446744073709551616), .int .u64 ((x + y + c) / 18446744073709551616)])) w := by
  rw [run_callFunc_extern Try.func58 (by kernel_rfl) (by kernel_rfl) (by kernel_rfl) (e := add64Entry) (by kernel_rfl), run_add64 x y c hx hy hc0 hc]
  rfl

theorem add_low (D : Nat) (n : Int) (hD : D < 18446744073709551616) (h0 : -9223372036854775808 ≤ n + D) (h1 : n + D ≤ 9223372036854775807) (g0 : -9223372036854775808 ≤ n) (g1 : n ≤ 9223372036854775807) :
    ((D : Int) + ((M.u64 n : Nat) : Int)) % 18446744073709551616 = ((M.u64 (n + D) : Nat) : Int) := by
  rw [M.u64_cast, M.u64_cast]; omega
theorem add_high (D : Nat) (n : Int) (hD : D < 18446744073709551616) (h0 : -9223372036854775808 ≤ n + D) (h1 : n + D ≤ 9223372036854775807) (g0 : -9223372036854775808 ≤ n) (g1 : n ≤ 9223372036854775807) :
    wrap64 ((IntKind.u64.wrap (n / 9223372036854775808) + ((D : Int) + ((M.u64 n : Nat) : Int)) / 18446744073709551616) % 18446744073709551616) = (n + D) / 9223372036854775808 := by
  have hu : ((M.u64 n : Nat) : Int) = if n < 0 then n + 18446744073709551616 else n := by rw [M.u64_cast]; split <;> omega
  rw [IntKind.wrap_u64]
  by_cases hn : n < 0
  · rw [if_pos hn] at hu
    rw [hu, show n / 9223372036854775808 = -1 by omega]
    by_cases hs : n + D < 0
    · rw [show (n + D) / 9223372036854775808 = -1 by omega, show ((D : Int) + (n + 18446744073709551616)) / 18446744073709551616 = 0 by omega]; unfold wrap64; omega
    · rw [show (n + D) / 9223372036854775808 = 0 by omega, show ((D : Int) + (n + 18446744073709551616)) / 18446744073709551616 = 1 by omega]; unfold wrap64; omega
  · rw [if_neg hn] at hu
    rw [hu, show n / 9223372036854775808 = 0 by omega, show (n + D) / 9223372036854775808 = 0 by omega, show ((D : Int) + n) / 18446744073709551616 = 0 by omega]; unfold wrap64; omega

set_option maxHeartbeats 1000000 in
theorem Add_any (D : Nat) (n : Int) (w : World) (hD : D < 18446744073709551616) (h0 : -9223372036854775808 ≤ n + D) (h1 : n + D ≤ 9223372036854775807) (g0 : -9223372036854775808 ≤ n) (g1 : n ≤ 9223372036854775807) :
    Calls Try.prog 45 #[.agg #[.int .i64 0, .int .u64 (D : Int)], .agg #[.int .i64 (n / 9223372036854775808), .int .u64 (M.u64 n : Nat)]] w fun e w' => e = .returned (.agg #[.int .i64 ((n + D) / 9223372036854775808), .int .u64 (M.u64 (n + D) : Nat)]) ∧ Below w.heap.size w w' := by
  have a1 := fun w => Try.add64 (D : Int) ((M.u64 n : Nat) : Int) 0 (by omega) (by omega) (by omega) (by omega) w
  have bq : (((D : Int) + ((M.u64 n : Nat) : Int)) / 18446744073709551616) ≤ 1 := by have := M.u64_lt n; omega
  have bq0 : 0 ≤ (((D : Int) + ((M.u64 n : Nat) : Int)) / 18446744073709551616) := by omega
  have wq : 0 ≤ IntKind.u64.wrap (n / 9223372036854775808) := by rw [IntKind.wrap_u64]; omega
  have a2 := fun w => Try.add64 0 (IntKind.u64.wrap (n / 9223372036854775808)) (((D : Int) + ((M.u64 n : Nat) : Int)) / 18446744073709551616) (by omega) wq bq0 bq w
  simp only [Int.add_zero, Int.zero_add] at a1 a2
  have al := Lib.hid (add_low D n hD h0 h1 g0 g1)
  have ah := Lib.hid (add_high D n hD h0 h1 g0 g1)
  clear bq bq0 wq h0 h1
  go_enter Try.func45, Try.ntmps45
  go_wp2_with fail
  rw [al.out, ah.out]
  exact bodyPost_ret (by simp [results, Try.results45, go_sem]) rfl ⟨rfl, (((Below.refl _ _).alloc (Nat.le_refl _) _).alloc (by simp) _).alloc (by simp; omega) _⟩

/-- Part, and how far Between goes up. -/
def M.part (s : Nat) (a b c i : Int) : Nat := M.word s a b c i / 4294967296
theorem M.part_lt (s : Nat) (a b c i : Int) : M.part s a b c i < 4294967296 := by have := M.word_lt s a b c i; unfold M.part; omega
def M.up (R p : Nat) : Nat := R * p / 4294967296
theorem M.up_lt {R p : Nat} (hR : 0 < R) (hp : p < 4294967296) : M.up R p < R := by
  unfold M.up
  rw [Nat.div_lt_iff_lt_mul (by omega)]
  exact Nat.mul_lt_mul_of_pos_left hp hR
theorem M.high_le {R p : Nat} (hR : R < 18446744073709551616) : M.high R p ≤ p := by
  unfold M.high
  have : R * p ≤ 18446744073709551616 * p := Nat.mul_le_mul_right _ (by omega)
  omega
theorem up_form (R p : Nat) : M.high R p * 4294967296 + (R * p % 18446744073709551616) / 4294967296 = M.up R p := by
  unfold M.high M.up; omega
theorem room_form (low : Int) (R : Nat) (hR : R < 18446744073709551616) :
    IntKind.u64.wrap (IntKind.u64.wrap (low + R) - IntKind.u64.wrap low) = ((R : Nat) : Int) := by
  rw [IntKind.wrap_u64, IntKind.wrap_u64, IntKind.wrap_u64]; omega
theorem part_form (s : Nat) (a b c i : Int) : ((M.word s a b c i : Nat) : Int) / 4294967296 = ((M.part s a b c i : Nat) : Int) := by unfold M.part; omega

theorem Part_any (s : Nat) (a b c i : Int) (w : World) :
    Calls Try.prog 23 #[.agg #[.int .u64 (s : Int), .int .i64 a, .int .i64 b, .int .i64 c], .int .i64 i] w fun e w' => e = .returned (.int .i64 (M.part s a b c i : Nat)) ∧ Below w.heap.size w w' := by
  have hlt := M.word_lt s a b c i
  have hp := Lib.hid (part_form s a b c i)
  go_enter Try.func23, Try.ntmps23
  go_wp2_with fail
  refine (Word_any s a b c i _).mono ?_
  rintro e w1 ⟨rfl, hb1⟩
  go_wp2_with fail
  rw [hp.out]
  go_ret
  exact ⟨rfl, ((Below.refl _ _).alloc (Nat.le_refl _) _).trans (hb1.mono (by simp))⟩
theorem rPart_any (s : Nat) (a b c i : Int) (w : World) :
    Calls Try.prog 25 #[.agg #[.int .u64 (s : Int), .int .i64 a, .int .i64 b, .int .i64 c], .int .i64 i] w fun e w' => e = .returned (.int .i64 (M.part s a b c i : Nat)) ∧ Below w.heap.size w w' := by
  have hlt := M.word_lt s a b c i
  have hp := Lib.hid (part_form s a b c i)
  go_enter Try.func25, Try.ntmps25
  go_wp2_with fail
  refine (rWord_any s a b c i _).mono ?_
  rintro e w1 ⟨rfl, hb1⟩
  go_wp2_with fail
  rw [hp.out]
  go_ret
  exact ⟨rfl, ((Below.refl _ _).alloc (Nat.le_refl _) _).trans (hb1.mono (by simp))⟩

theorem Between_low (s : Nat) (a b c i low high : Int) (w : World) (h : high ≤ low) :
    Calls Try.prog 24 #[.agg #[.int .u64 (s : Int), .int .i64 a, .int .i64 b, .int .i64 c], .int .i64 i, .int .i64 low, .int .i64 high] w fun e w' => e = .returned (.int .i64 low) ∧ Below w.heap.size w w' := by
  go_enter Try.func24, Try.ntmps24
  go_wp2_with fail
  go_ret
  exact ⟨rfl, (Below.refl _ _).alloc (Nat.le_refl _) _⟩
theorem rBetween_low (s : Nat) (a b c i low high : Int) (w : World) (h : high ≤ low) :
    Calls Try.prog 26 #[.agg #[.int .u64 (s : Int), .int .i64 a, .int .i64 b, .int .i64 c], .int .i64 i, .int .i64 low, .int .i64 high] w fun e w' => e = .returned (.int .i64 low) ∧ Below w.heap.size w w' := by
  go_enter Try.func26, Try.ntmps26
  go_wp2_with fail
  go_ret
  exact ⟨rfl, (Below.refl _ _).alloc (Nat.le_refl _) _⟩

set_option maxHeartbeats 1000000 in
theorem Between_up (s : Nat) (a b c i low : Int) (R : Nat) (w : World) (h : 0 < R) (g0 : -9223372036854775808 ≤ low) (g1 : low + R ≤ 9223372036854775807) :
    Calls Try.prog 24 #[.agg #[.int .u64 (s : Int), .int .i64 a, .int .i64 b, .int .i64 c], .int .i64 i, .int .i64 low, .int .i64 (low + R)] w fun e w' => e = .returned (.int .i64 (low + (M.up R (M.part s a b c i) : Nat))) ∧ Below w.heap.size w w' := by
  have hR : R < 18446744073709551616 := by omega
  have hroom := Lib.hid (room_form low R hR)
  have hn : ¬ low + (R : Int) ≤ low := by omega
  have hp := M.part_lt s a b c i
  have hup := M.up_lt h hp
  have hhi : M.high R (M.part s a b c i) < 4294967296 := Nat.lt_of_le_of_lt (M.high_le hR) hp
  have hform := Lib.hid (up_form R (M.part s a b c i))
  obtain ⟨p, hpp⟩ : ∃ p, p = M.part s a b c i := ⟨_, rfl⟩
  have cpart := Lib.hid (fun w => Part_any s a b c i w)
  rw [← hpp] at hp hup hhi hform cpart ⊢
  clear hpp
  obtain ⟨D, hD⟩ : ∃ D, D = M.up R p := ⟨_, rfl⟩
  rw [← hD] at hup hform ⊢
  clear hD
  go_enter Try.func24, Try.ntmps24
  go_wp2_with fail
  rw [hroom.out]
  refine (cpart.out _).mono ?_
  rintro e w1 ⟨rfl, hb1⟩
  have hB1 : Below (w.heap.size + 1) (w.alloc (Obj.cells #[.int .u64 (s : Int), .int .i64 a, .int .i64 b, .int .i64 c] 24)) w1 := hb1.mono (by simp)
  have hs1 := Below.le hB1 (by simp)
  clear hb1
  go_wp2_with fail
  refine (Mul64_any R p _ hR (by omega)).mono ?_
  rintro e w2 ⟨rfl, rfl⟩
  go_wp2_with fail
  refine (Shr_any (M.high R p) (R * p % 18446744073709551616) _ hhi (Nat.mod_lt _ (by decide))).mono ?_
  rintro e w3 ⟨rfl, hb3⟩
  rw [hform.out]
  go_wp2_with fail
  refine (Of_any low _ g0 (by omega)).mono ?_
  rintro e w4 ⟨rfl, hb4⟩
  go_wp2_with fail
  refine (Add_any D low _ (by omega) (by omega) (by omega) g0 (by omega)).mono ?_
  rintro e w5 ⟨rfl, hb5⟩
  go_wp2_with fail
  refine (Clamp_any (low + D) _ (by omega) (by omega)).mono ?_
  rintro e w6 ⟨rfl, hb6⟩
  go_wp2_with fail
  go_ret
  have q3 := hb3.size
  have q4 := hb4.size
  have q5 := hb5.size
  simp at q3
  exact ⟨rfl, (((((((Below.refl _ _).alloc (Nat.le_refl _) _).trans (hB1.mono (by omega))).alloc (by omega) _).trans (hb3.mono (by simp; omega))).trans (hb4.mono (by omega))).trans (hb5.mono (by omega))).trans (hb6.mono (by omega))⟩

theorem rb_form (low : Int) (P2 P1 D : Nat) (h : P2 * 4294967296 + P1 = D) (g0 : -9223372036854775808 ≤ low) (g1 : low + D ≤ 9223372036854775807) :
    wrap64 (IntKind.u64.wrap (IntKind.u64.wrap (IntKind.u64.wrap low + (P2 : Int) * 4294967296) + (P1 : Int))) = low + D := by
  rw [IntKind.wrap_u64, IntKind.wrap_u64, IntKind.wrap_u64]; unfold wrap64; omega

set_option maxHeartbeats 1000000 in
theorem rBetween_up (s : Nat) (a b c i low : Int) (R : Nat) (w : World) (h : 0 < R) (g0 : -9223372036854775808 ≤ low) (g1 : low + R ≤ 9223372036854775807) :
    Calls Try.prog 26 #[.agg #[.int .u64 (s : Int), .int .i64 a, .int .i64 b, .int .i64 c], .int .i64 i, .int .i64 low, .int .i64 (low + R)] w fun e w' => e = .returned (.int .i64 (low + (M.up R (M.part s a b c i) : Nat))) ∧ Below w.heap.size w w' := by
  have hR : R < 18446744073709551616 := by omega
  have hroom := Lib.hid (room_form low R hR)
  have hn : ¬ low + (R : Int) ≤ low := by omega
  have hp := M.part_lt s a b c i
  have hup := M.up_lt h hp
  have hmid := M.product_mid hR hp
  have p2 := M.product_lt R (M.part s a b c i) 2
  have p1 := M.product_lt R (M.part s a b c i) 1
  have hmid2 := Lib.hid (show M.product R (M.part s a b c i) 2 * 4294967296 + M.product R (M.part s a b c i) 1 = M.up R (M.part s a b c i) from hmid)
  clear hmid
  obtain ⟨p, hpp⟩ : ∃ p, p = M.part s a b c i := ⟨_, rfl⟩
  have cpart := Lib.hid (fun w => rPart_any s a b c i w)
  rw [← hpp] at hp hup hmid2 cpart p2 p1 ⊢
  clear hpp
  obtain ⟨D, hD⟩ : ∃ D, D = M.up R p := ⟨_, rfl⟩
  rw [← hD] at hup hmid2 ⊢
  clear hD
  have cprod := Lib.hid (fun w => Product_any R p w hR (by omega))
  go_enter Try.func26, Try.ntmps26
  go_wp2_with fail
  rw [hroom.out]
  refine (cpart.out _).mono ?_
  rintro e w1 ⟨rfl, hb1⟩
  have hB1 : Below (w.heap.size + 1) (w.alloc (Obj.cells #[.int .u64 (s : Int), .int .i64 a, .int .i64 b, .int .i64 c] 28)) w1 := hb1.mono (by simp)
  have hs1 := Below.le hB1 (by simp)
  clear hb1
  go_wp2_with fail
  refine (cprod.out _).mono ?_
  rintro e w2 ⟨rfl, hb2⟩
  go_wp2_with fail
  rw [rb_form low _ _ D hmid2.out g0 (by omega)]
  go_ret
  have q2 := hb2.size
  exact ⟨rfl, ((((Below.refl _ _).alloc (Nat.le_refl _) _).trans (hB1.mono (by omega))).trans (hb2.mono (by omega))).alloc (by omega) _⟩
end Go.Proofs.Ytcojiienmmmihaa
