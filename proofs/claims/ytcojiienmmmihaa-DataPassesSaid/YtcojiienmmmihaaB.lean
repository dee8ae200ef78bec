/- Walks: Mul64, Below; the six digits: One64, Plus, Product, and the reference's Below. -/
import Derived.Test.YtcojiienmmmihaaA
import Derived.Lib.Mul64
import Derived.Laws.Bits64b
import Derived.Deep.QuietTactic
import Derived.BigQuiet
import Derived.BigRegion
import Derived.Deep.RegionWith
import Derived.Deep.RegionHeld3
import Derived.WalkSmall
namespace Go.Proofs.Ytcojiienmmmihaa
open Go.RowKit Go.Joins
set_option maxRecDepth 100000

namespace Mul
theorem maskN (a : Nat) (ha : a < 18446744073709551616) : bits .and .u64 (a : Int) 4294967295 = ((a % 4294967296 : Nat) : Int) := by
  have h := bits_and_u64_nat a 4294967295 ha (by omega)
  have e : a &&& 4294967295 = a % 4294967296 := Nat.and_two_pow_sub_one_eq_mod a 32
  rw [e] at h
  exact h
theorem divN (a : Nat) : (a : Int) / 4294967296 = ((a / 4294967296 : Nat) : Int) := by omega
theorem mulN (a b : Nat) : (a : Int) * (b : Int) = ((a * b : Nat) : Int) := (Int.natCast_mul a b).symm
theorem addN (a b : Nat) : (a : Int) + (b : Int) = ((a + b : Nat) : Int) := (Int.natCast_add a b).symm
theorem wrapN (a : Nat) (ha : a < 18446744073709551616) : IntKind.u64.wrap (a : Int) = (a : Int) := by rw [IntKind.wrap_u64]; omega
theorem wrapM (a : Nat) : IntKind.u64.wrap (a : Int) = ((a % 18446744073709551616 : Nat) : Int) := by rw [IntKind.wrap_u64]; omega
end Mul

set_option maxHeartbeats 1000000 in
theorem Mul64_any (x y : Nat) (w : World) (hx : x < 18446744073709551616) (hy : y < 18446744073709551616) :
    Calls Try.prog 42 #[.int .u64 x, .int .u64 y] w fun e w' => e = .returned (.tuple #[.int .u64 (M.high x y : Nat), .int .u64 ((x * y % 18446744073709551616 : Nat) : Int)]) ∧ w = w' := by
  obtain ⟨bd, bt, bw, hhi⟩ := Lib.mul64_hi x y hx hy
  have ba := Lib.half_mul_le (a := x / 4294967296) (b := y / 4294967296) (by omega) (by omega)
  have bb := Lib.half_mul_le (a := x / 4294967296) (b := y % 4294967296) (by omega) (by omega)
  have bc := Lib.half_mul_le (a := x % 4294967296) (b := y / 4294967296) (by omega) (by omega)
  have ba' : x / 4294967296 * (y / 4294967296) < 18446744073709551616 := by omega
  have bb' : x / 4294967296 * (y % 4294967296) < 18446744073709551616 := by omega
  have bc' : x % 4294967296 * (y / 4294967296) < 18446744073709551616 := by omega
  have bh1 : x / 4294967296 * (y / 4294967296) + (x / 4294967296 * (y % 4294967296) + x % 4294967296 * (y % 4294967296) / 4294967296) / 4294967296 < 18446744073709551616 := by omega
  have bh : x / 4294967296 * (y / 4294967296) + (x / 4294967296 * (y % 4294967296) + x % 4294967296 * (y % 4294967296) / 4294967296) / 4294967296 + ((x / 4294967296 * (y % 4294967296) + x % 4294967296 * (y % 4294967296) / 4294967296) % 4294967296 + x % 4294967296 * (y / 4294967296)) / 4294967296 < 18446744073709551616 := by omega
  go_enter Try.func42, Try.ntmps42
  go_wp2
  simp only [Mul.maskN x hx, Mul.maskN y hy, Mul.divN, Mul.mulN, Mul.addN, Mul.wrapN _ bd, Mul.wrapN _ bb', Mul.wrapN _ bt, Mul.maskN _ bt, Mul.wrapN _ bc', Mul.wrapN _ bw, Mul.wrapN _ ba', Mul.wrapN _ bh1, Mul.wrapN _ bh, Mul.wrapM (x * y)]
  rw [hhi]
  go_ret2
  exact ⟨rfl, rfl⟩

theorem Below_none (s : Nat) (a b c i n : Int) (w : World) (hn : n < 1) :
    Calls Try.prog 19 #[.agg #[.int .u64 (s : Int), .int .i64 a, .int .i64 b, .int .i64 c], .int .i64 i, .int .i64 n] w fun e w' => e = .returned (.int .i64 0) ∧ Below w.heap.size w w' := by
  go_enter Try.func19, Try.ntmps19
  go_wp2_with fail
  go_ret
  exact ⟨rfl, (Below.refl _ _).alloc (Nat.le_refl _) _⟩

theorem Below_any (s : Nat) (a b c i : Int) (n : Nat) (w : World) (h0 : 1 ≤ n) (h1 : n ≤ 9223372036854775807) :
    Calls Try.prog 19 #[.agg #[.int .u64 (s : Int), .int .i64 a, .int .i64 b, .int .i64 c], .int .i64 i, .int .i64 n] w fun e w' => e = .returned (.int .i64 (M.below s a b c i n : Nat)) ∧ Below w.heap.size w w' := by
  have hlt := M.below_lt s a b c i (n := n) (by omega)
  go_enter Try.func19, Try.ntmps19
  go_wp2_with fail
  refine (Word_any s a b c i _).mono ?_
  rintro e w1 ⟨rfl, hb⟩
  go_wp2_with fail
  refine (Mul64_any (M.word s a b c i) n _ (M.word_lt _ _ _ _ _) (by omega)).mono ?_
  rintro e w2 ⟨rfl, rfl⟩
  rw [show M.high (M.word s a b c i) n = M.below s a b c i n from rfl]
  go_wp2_with fail
  go_ret
  exact ⟨rfl, ((Below.refl _ _).alloc (Nat.le_refl _) _).trans (hb.mono (by simp))⟩

theorem setCell_drewN (w : World) (n : Nat) (a : Addr) (v : Value) : (w.drewN n).setCell a v = (w.setCell a v).drewN n := rfl
theorem alloc_drewN (w : World) (n : Nat) (o : Obj) : (w.drewN n).alloc o = (w.alloc o).drewN n := rfl
attribute [local go_sem] setCell_drewN alloc_drewN

theorem wrap_u64_in (x : Int) (h0 : 0 ≤ x) (h1 : x < 18446744073709551616) : IntKind.u64.wrap x = x := by rw [IntKind.wrap_u64]; omega
theorem quo_lt (a : Nat) : IntKind.u64.wrap ((a : Int) / 4294967296) = (a : Int) / 4294967296 ∨ 18446744073709551616 ≤ a := by
  by_cases h : a < 18446744073709551616
  · exact .inl (wrap_u64_in _ (by omega) (by omega))
  · exact .inr (by omega)

theorem One64_any (a p : Nat) (w : World) (hp : p = 0 ∨ p = 1 ∨ p = 2) (ha : a < 18446744073709551616) :
    Calls Try.prog 57 #[.int .u64 a, .int .i64 (p : Int)] w fun e w' => e = .returned (.agg #[.int .u64 (M.one64 a p 0 : Nat), .int .u64 (M.one64 a p 1 : Nat), .int .u64 (M.one64 a p 2 : Nat), .int .u64 (M.one64 a p 3 : Nat), .int .u64 (M.one64 a p 4 : Nat), .int .u64 (M.one64 a p 5 : Nat)]) ∧ Below w.heap.size w w' := by
  rcases hp with rfl | rfl | rfl
  all_goals
    go_enter Try.func57, Try.ntmps57
    go_wp2_with fail
    exact bodyPost_ret (by simp [results, Try.results57, go_sem]; rfl) rfl ⟨by simp [M.one64], ((Below.refl _ _).alloc (Nat.le_refl _) _).alloc (by simp) _⟩

theorem dig_eq0 (a b : Nat → Nat) : ((a 0 : Int) + (b 0 : Int)) % 4294967296 = ((M.dig a b 0 : Nat) : Int) := by
  have : M.dig a b 0 = (a 0 + b 0 + 0) % 4294967296 := rfl
  omega
theorem carry_eq0 (a b : Nat → Nat) : ((a 0 : Int) + (b 0 : Int)) / 4294967296 = ((M.carry a b 1 : Nat) : Int) := by
  have : M.carry a b 1 = (a 0 + b 0 + 0) / 4294967296 := rfl
  omega
theorem dig_eq (a b : Nat → Nat) (i : Nat) : ((a i : Int) + (b i : Int) + ((M.carry a b i : Nat) : Int)) % 4294967296 = ((M.dig a b i : Nat) : Int) := by
  have : M.dig a b i = (a i + b i + M.carry a b i) % 4294967296 := rfl
  omega
theorem carry_eq (a b : Nat → Nat) (i : Nat) : ((a i : Int) + (b i : Int) + ((M.carry a b i : Nat) : Int)) / 4294967296 = ((M.carry a b (i + 1) : Nat) : Int) := by
  have : M.carry a b (i + 1) = (a i + b i + M.carry a b i) / 4294967296 := rfl
  omega

set_option maxHeartbeats 1000000 in
theorem Plus_any (a b : Nat → Nat) (w : World) (ha : ∀ i, a i < 4294967296) (hb : ∀ i, b i < 4294967296) :
    Calls Try.prog 56 #[.agg #[.int .u64 (a 0 : Nat), .int .u64 (a 1 : Nat), .int .u64 (a 2 : Nat), .int .u64 (a 3 : Nat), .int .u64 (a 4 : Nat), .int .u64 (a 5 : Nat)], .agg #[.int .u64 (b 0 : Nat), .int .u64 (b 1 : Nat), .int .u64 (b 2 : Nat), .int .u64 (b 3 : Nat), .int .u64 (b 4 : Nat), .int .u64 (b 5 : Nat)]] w fun e w' => e = .returned (.agg #[.int .u64 (M.dig a b 0 : Nat), .int .u64 (M.dig a b 1 : Nat), .int .u64 (M.dig a b 2 : Nat), .int .u64 (M.dig a b 3 : Nat), .int .u64 (M.dig a b 4 : Nat), .int .u64 (M.dig a b 5 : Nat)]) ∧ Below w.heap.size w w' := by
  have a0 := ha 0
  have b0 := hb 0
  have a1 := ha 1
  have b1 := hb 1
  have c1 := M.carry_le ha hb 1
  have a2 := ha 2
  have b2 := hb 2
  have c2 := M.carry_le ha hb 2
  have a3 := ha 3
  have b3 := hb 3
  have c3 := M.carry_le ha hb 3
  have a4 := ha 4
  have b4 := hb 4
  have c4 := M.carry_le ha hb 4
  have a5 := ha 5
  have b5 := hb 5
  have c5 := M.carry_le ha hb 5
  clear ha hb
  go_enter Try.func56, Try.ntmps56
  go_wp2_with fail
  refine wp_loop_rounds 7 ?_
  rw [rounds_succ]
  go_wp2_with fail
  go_quiet (fail)
  go_wp2_with fail
  rw [show ((a 0 : Int) + (b 0 : Int)) % 4294967296 = ((M.dig a b 0 : Nat) : Int) from dig_eq0 a b, show ((a 0 : Int) + (b 0 : Int)) / 4294967296 = ((M.carry a b 1 : Nat) : Int) from carry_eq0 a b]
  rw [rounds_succ]
  go_wp2_with fail
  go_quiet (fail)
  go_wp2_with fail
  rw [show ((a 1 : Int) + (b 1 : Int) + ((M.carry a b 1 : Nat) : Int)) % 4294967296 = ((M.dig a b 1 : Nat) : Int) from dig_eq a b 1, show ((a 1 : Int) + (b 1 : Int) + ((M.carry a b 1 : Nat) : Int)) / 4294967296 = ((M.carry a b 2 : Nat) : Int) from carry_eq a b 1]
  rw [rounds_succ]
  go_wp2_with fail
  go_quiet (fail)
  go_wp2_with fail
  rw [show ((a 2 : Int) + (b 2 : Int) + ((M.carry a b 2 : Nat) : Int)) % 4294967296 = ((M.dig a b 2 : Nat) : Int) from dig_eq a b 2, show ((a 2 : Int) + (b 2 : Int) + ((M.carry a b 2 : Nat) : Int)) / 4294967296 = ((M.carry a b 3 : Nat) : Int) from carry_eq a b 2]
  rw [rounds_succ]
  go_wp2_with fail
  go_quiet (fail)
  go_wp2_with fail
  rw [show ((a 3 : Int) + (b 3 : Int) + ((M.carry a b 3 : Nat) : Int)) % 4294967296 = ((M.dig a b 3 : Nat) : Int) from dig_eq a b 3, show ((a 3 : Int) + (b 3 : Int) + ((M.carry a b 3 : Nat) : Int)) / 4294967296 = ((M.carry a b 4 : Nat) : Int) from carry_eq a b 3]
  rw [rounds_succ]
  go_wp2_with fail
  go_quiet (fail)
  go_wp2_with fail
  rw [show ((a 4 : Int) + (b 4 : Int) + ((M.carry a b 4 : Nat) : Int)) % 4294967296 = ((M.dig a b 4 : Nat) : Int) from dig_eq a b 4, show ((a 4 : Int) + (b 4 : Int) + ((M.carry a b 4 : Nat) : Int)) / 4294967296 = ((M.carry a b 5 : Nat) : Int) from carry_eq a b 4]
  rw [rounds_succ]
  go_wp2_with fail
  go_quiet (fail)
  go_wp2_with fail
  rw [show ((a 5 : Int) + (b 5 : Int) + ((M.carry a b 5 : Nat) : Int)) % 4294967296 = ((M.dig a b 5 : Nat) : Int) from dig_eq a b 5, show ((a 5 : Int) + (b 5 : Int) + ((M.carry a b 5 : Nat) : Int)) / 4294967296 = ((M.carry a b 6 : Nat) : Int) from carry_eq a b 5]
  rw [rounds_succ]
  go_wp2_with fail
  exact bodyPost_ret (by simp [results, Try.results56, go_sem]) rfl ⟨rfl, below_drewN (((((Below.refl _ _).alloc (Nat.le_refl _) _).alloc (by simp) _).alloc (by simp; omega) _).alloc (by simp; omega) _) _⟩

theorem bcell {W w1 : World} (hb : Below W.heap.size W w1) : (∀ b o, b < W.heap.size → w1.cell? ⟨b, o, none⟩ = W.cell? ⟨b, o, none⟩) ∧ (∀ b o, b < W.heap.size → w1.frozen? ⟨b, o, none⟩ = W.frozen? ⟨b, o, none⟩) :=
  ⟨fun b o h => hb.cell (p := ⟨b, o, none⟩) h, fun b o h => hb.frozen (p := ⟨b, o, none⟩) h⟩

theorem One64_at (x : Int) (p : Int) (n q : Nat) (w : World) (hx : x = n) (hp : p = q) (hq : q = 0 ∨ q = 1 ∨ q = 2) (hn : n < 18446744073709551616) :
    Calls Try.prog 57 #[.int .u64 x, .int .i64 p] w fun e w' => e = .returned (.agg #[.int .u64 (M.one64 n q 0 : Nat), .int .u64 (M.one64 n q 1 : Nat), .int .u64 (M.one64 n q 2 : Nat), .int .u64 (M.one64 n q 3 : Nat), .int .u64 (M.one64 n q 4 : Nat), .int .u64 (M.one64 n q 5 : Nat)]) ∧ Below w.heap.size w w' := by
  subst hx; subst hp; exact One64_any n q w hq hn

theorem mulh_form (x y : Nat) (hx : x ≤ 4294967295) (hy : y ≤ 4294967295) : IntKind.u64.wrap ((x : Int) * (y : Int)) = ((x * y : Nat) : Int) := by
  have := M.half_mul_le hx hy
  rw [← Int.natCast_mul, wrap_u64_in _ (by omega) (by omega)]
theorem modN (a : Nat) : (a : Int) % 4294967296 = ((a % 4294967296 : Nat) : Int) := by omega
theorem divN (a : Nat) : (a : Int) / 4294967296 = ((a / 4294967296 : Nat) : Int) := by omega
theorem tdivN (a : Nat) (h : a < 18446744073709551616) : IntKind.u64.wrap ((a : Int).tdiv 4294967296) = ((a / 4294967296 : Nat) : Int) := by
  have e : IntKind.u64.wrap ((a : Int).tdiv 4294967296) = (a : Int) / 4294967296 := tdiv_form a 4294967296 h
  rw [e]; exact divN a

end Go.Proofs.Ytcojiienmmmihaa
