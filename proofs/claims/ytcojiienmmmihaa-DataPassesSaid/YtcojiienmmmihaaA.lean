/- Walks: stir, root, Word of both texts. -/
import Derived.WalkKit
import Derived.Outline
import Derived.LoopN
import Derived.Lib.SmallJoins
import Derived.Test.YtcojiienmmmihaaProg
import Derived.Test.YtcojiienmmmihaaM
namespace Go.Proofs.Ytcojiienmmmihaa
open Go.RowKit Go.Joins
set_option maxRecDepth 100000

theorem ret_u64 {a b : Int} (h : a = b) : Ending.returned (.int .u64 a) = Ending.returned (.int .u64 b) := by rw [h]

theorem xor_form (a b : Nat) (ha : a < 18446744073709551616) (hb : b < 18446744073709551616) : bits .xor .u64 (a : Int) (b : Int) = ((a ^^^ b : Nat) : Int) := bits_xor_u64_nat a b ha hb
theorem mul_form (a C : Nat) : IntKind.u64.wrap ((a : Int) * (C : Int)) = ((a * C % 18446744073709551616 : Nat) : Int) := by
  rw [IntKind.wrap_u64]; omega
theorem add_form (a C : Nat) : IntKind.u64.wrap ((a : Int) + (C : Int)) = (((a + C) % 18446744073709551616 : Nat) : Int) := by
  rw [IntKind.wrap_u64]; omega

theorem xs_form (x s : Nat) (h : x < 18446744073709551616) : bits .xor .u64 (x : Int) ((x : Int) / (s : Int)) = ((M.xs x s : Nat) : Int) := xorShift_u64 x s h
theorem mulx_form (x s C : Nat) (h : x < 18446744073709551616) : IntKind.u64.wrap (bits .xor .u64 (x : Int) ((x : Int) / (s : Int)) * (C : Int)) = ((M.mulx x s C : Nat) : Int) := mixStep_u64 x s C h
theorem tdiv_form (x s : Nat) (h : x < 18446744073709551616) : IntKind.u64.wrap ((x : Int).tdiv (s : Int)) = (x : Int) / (s : Int) := by
  rw [IntKind.wrap_u64, Int.tdiv_eq_ediv_of_nonneg (Int.natCast_nonneg x)]
  have h1 : ((x : Int) / (s : Int)) = ((x / s : Nat) : Int) := (Int.natCast_ediv x s).symm
  have h2 : x / s ≤ x := Nat.div_le_self _ _
  rw [h1]
  generalize x / s = y at *
  omega

theorem stir_form (x : Nat) (h : x < 18446744073709551616) :
    bits .xor .u64 (IntKind.u64.wrap (bits .xor .u64 (IntKind.u64.wrap (bits .xor .u64 (x : Int) ((x : Int) / 4294967296) * 11400714819323198549)) (IntKind.u64.wrap (bits .xor .u64 (x : Int) ((x : Int) / 4294967296) * 11400714819323198549) / 536870912) * 15241094284759029579))
      (IntKind.u64.wrap (bits .xor .u64 (IntKind.u64.wrap (bits .xor .u64 (x : Int) ((x : Int) / 4294967296) * 11400714819323198549)) (IntKind.u64.wrap (bits .xor .u64 (x : Int) ((x : Int) / 4294967296) * 11400714819323198549) / 536870912) * 15241094284759029579) / 4294967296) = ((M.stir x : Nat) : Int) := by
  have e1 : IntKind.u64.wrap (bits .xor .u64 (x : Int) ((x : Int) / 4294967296) * 11400714819323198549) = ((M.mulx x 4294967296 11400714819323198549 : Nat) : Int) := mulx_form x 4294967296 11400714819323198549 h
  rw [e1]
  have e2 : IntKind.u64.wrap (bits .xor .u64 ((M.mulx x 4294967296 11400714819323198549 : Nat) : Int) (((M.mulx x 4294967296 11400714819323198549 : Nat) : Int) / 536870912) * 15241094284759029579) = ((M.mulx (M.mulx x 4294967296 11400714819323198549) 536870912 15241094284759029579 : Nat) : Int) := mulx_form _ 536870912 15241094284759029579 (M.mulx_lt _ _ _)
  rw [e2]
  exact xs_form _ 4294967296 (M.mulx_lt _ _ _)

theorem rstir_form (x : Nat) (h : x < 18446744073709551616) :
    bits .xor .u64 (IntKind.u64.wrap (bits .xor .u64 (IntKind.u64.wrap (bits .xor .u64 (x : Int) ((x : Int) / 4294967296) * 11400714819323198549)) (IntKind.u64.wrap ((IntKind.u64.wrap (bits .xor .u64 (x : Int) ((x : Int) / 4294967296) * 11400714819323198549)).tdiv 536870912)) * 15241094284759029579))
      (IntKind.u64.wrap ((IntKind.u64.wrap (bits .xor .u64 (IntKind.u64.wrap (bits .xor .u64 (x : Int) ((x : Int) / 4294967296) * 11400714819323198549)) (IntKind.u64.wrap ((IntKind.u64.wrap (bits .xor .u64 (x : Int) ((x : Int) / 4294967296) * 11400714819323198549)).tdiv 536870912)) * 15241094284759029579)).tdiv 4294967296)) = ((M.stir x : Nat) : Int) := by
  have e1 : IntKind.u64.wrap (bits .xor .u64 (x : Int) ((x : Int) / 4294967296) * 11400714819323198549) = ((M.mulx x 4294967296 11400714819323198549 : Nat) : Int) := mulx_form x 4294967296 11400714819323198549 h
  rw [e1]
  have t1 : IntKind.u64.wrap (((M.mulx x 4294967296 11400714819323198549 : Nat) : Int).tdiv 536870912) = ((M.mulx x 4294967296 11400714819323198549 : Nat) : Int) / 536870912 := tdiv_form _ 536870912 (M.mulx_lt _ _ _)
  rw [t1]
  have e2 : IntKind.u64.wrap (bits .xor .u64 ((M.mulx x 4294967296 11400714819323198549 : Nat) : Int) (((M.mulx x 4294967296 11400714819323198549 : Nat) : Int) / 536870912) * 15241094284759029579) = ((M.mulx (M.mulx x 4294967296 11400714819323198549) 536870912 15241094284759029579 : Nat) : Int) := mulx_form _ 536870912 15241094284759029579 (M.mulx_lt _ _ _)
  rw [e2]
  have t2 : IntKind.u64.wrap (((M.mulx (M.mulx x 4294967296 11400714819323198549) 536870912 15241094284759029579 : Nat) : Int).tdiv 4294967296) = ((M.mulx (M.mulx x 4294967296 11400714819323198549) 536870912 15241094284759029579 : Nat) : Int) / 4294967296 := tdiv_form _ 4294967296 (M.mulx_lt _ _ _)
  rw [t2]
  exact xs_form _ 4294967296 (M.mulx_lt _ _ _)

theorem stir_any (x : Nat) (w : World) (h : x < 18446744073709551616) :
    Calls Try.prog 39 #[.int .u64 (x : Int)] w fun e w' => e = .returned (.int .u64 (M.stir x : Nat)) ∧ w = w' := by
  go_enter Try.func39, Try.ntmps39
  go_wp2
  go_ret
  exact ⟨ret_u64 (stir_form x h), rfl⟩

theorem rstir_any (x : Nat) (w : World) (h : x < 18446744073709551616) :
    Calls Try.prog 41 #[.int .u64 (x : Int)] w fun e w' => e = .returned (.int .u64 (M.stir x : Nat)) ∧ w = w' := by
  go_enter Try.func41, Try.ntmps41
  go_wp2
  go_ret
  exact ⟨ret_u64 (rstir_form x h), rfl⟩

theorem stir_at (x : Int) (n : Nat) (w : World) (hx : x = n) (h : n < 18446744073709551616) :
    Calls Try.prog 39 #[.int .u64 x] w fun e w' => e = .returned (.int .u64 (M.stir n : Nat)) ∧ w = w' := by
  subst hx; exact stir_any n w h
theorem rstir_at (x : Int) (n : Nat) (w : World) (hx : x = n) (h : n < 18446744073709551616) :
    Calls Try.prog 41 #[.int .u64 x] w fun e w' => e = .returned (.int .u64 (M.stir n : Nat)) ∧ w = w' := by
  subst hx; exact rstir_any n w h

theorem mix_form (W : Nat) (a : Int) (hW : W < 18446744073709551616) :
    IntKind.u64.wrap (bits .xor .u64 (W : Int) (IntKind.u64.wrap a) + 14029467366897019727) = (((W ^^^ M.u64 a) + 14029467366897019727) % 18446744073709551616 : Nat) := by
  have e1 : IntKind.u64.wrap a = ((M.u64 a : Nat) : Int) := by rw [IntKind.wrap_u64, M.u64_cast]
  rw [e1, xor_form W (M.u64 a) hW (M.u64_lt a)]
  exact add_form _ 14029467366897019727

/-- A round of the root. -/
theorem stir_mix (W : Nat) (a : Int) (w : World) (hW : W < 18446744073709551616) :
    Calls Try.prog 39 #[.int .u64 (IntKind.u64.wrap (bits .xor .u64 (W : Int) (IntKind.u64.wrap a) + 14029467366897019727))] w fun e w' => e = .returned (.int .u64 (M.mix W a : Nat)) ∧ w = w' :=
  stir_at _ _ _ (mix_form W a hW) (Nat.mod_lt _ (by decide))
theorem stir_seed (s : Nat) (w : World) :
    Calls Try.prog 39 #[.int .u64 (IntKind.u64.wrap ((s : Int) + 7046029254386353131))] w fun e w' => e = .returned (.int .u64 (M.seed s : Nat)) ∧ w = w' :=
  stir_at _ _ _ (add_form s 7046029254386353131) (Nat.mod_lt _ (by decide))
theorem rstir_mix (W : Nat) (a : Int) (w : World) (hW : W < 18446744073709551616) :
    Calls Try.prog 41 #[.int .u64 (IntKind.u64.wrap (bits .xor .u64 (W : Int) (IntKind.u64.wrap a) + 14029467366897019727))] w fun e w' => e = .returned (.int .u64 (M.mix W a : Nat)) ∧ w = w' :=
  rstir_at _ _ _ (mix_form W a hW) (Nat.mod_lt _ (by decide))
theorem rstir_seed (s : Nat) (w : World) :
    Calls Try.prog 41 #[.int .u64 (IntKind.u64.wrap ((s : Int) + 7046029254386353131))] w fun e w' => e = .returned (.int .u64 (M.seed s : Nat)) ∧ w = w' :=
  rstir_at _ _ _ (add_form s 7046029254386353131) (Nat.mod_lt _ (by decide))

theorem root_any (s : Nat) (a b c : Int) (w : World) :
    Calls Try.prog 40 #[.agg #[.int .u64 (s : Int), .int .i64 a, .int .i64 b, .int .i64 c]] w fun e w' => e = .returned (.int .u64 (M.root s a b c : Nat)) ∧ Below w.heap.size w w' := by
  have i0 : ∀ w : World, (Instr.index 94 (.agg #[.int .i64 a, .int .i64 b, .int .i64 c]) (.int .i64 0)).run Try.prog w = .ok (.int .i64 a) w := fun _ => by kernel_rfl
  have i1 : ∀ w : World, (Instr.index 94 (.agg #[.int .i64 a, .int .i64 b, .int .i64 c]) (.int .i64 1)).run Try.prog w = .ok (.int .i64 b) w := fun _ => by kernel_rfl
  have i2 : ∀ w : World, (Instr.index 94 (.agg #[.int .i64 a, .int .i64 b, .int .i64 c]) (.int .i64 2)).run Try.prog w = .ok (.int .i64 c) w := fun _ => by kernel_rfl
  go_enter Try.func40, Try.ntmps40
  go_wp2_with fail
  refine (stir_seed s _).mono ?_
  rintro e w1 ⟨rfl, rfl⟩
  go_wp2_with fail
  refine wp_loop_rounds 4 ?_
  rw [rounds_succ]
  go_wp2_with fail
  refine (stir_mix (M.seed s) a _ (M.seed_lt s)).mono ?_
  rintro e w1 ⟨rfl, rfl⟩
  go_wp2_with fail
  rw [rounds_succ]
  go_wp2_with fail
  refine (stir_mix _ b _ (M.mix_lt _ _)).mono ?_
  rintro e w1 ⟨rfl, rfl⟩
  go_wp2_with fail
  rw [rounds_succ]
  go_wp2_with fail
  refine (stir_mix _ c _ (M.mix_lt _ _)).mono ?_
  rintro e w1 ⟨rfl, rfl⟩
  go_wp2_with fail
  rw [rounds_succ]
  go_wp2_with fail
  go_ret
  exact ⟨rfl, (Below.refl _ _).alloc (Nat.le_refl _) _⟩

theorem word_form (R : Nat) (i : Int) (hR : R < 18446744073709551616) :
    bits .xor .u64 (R : Int) (IntKind.u64.wrap (IntKind.u64.wrap i * 11400714819323198485)) = ((R ^^^ (M.u64 i * 11400714819323198485 % 18446744073709551616) : Nat) : Int) := by
  have e1 : IntKind.u64.wrap i = ((M.u64 i : Nat) : Int) := by rw [IntKind.wrap_u64, M.u64_cast]
  have e2 : IntKind.u64.wrap (((M.u64 i : Nat) : Int) * 11400714819323198485) = ((M.u64 i * 11400714819323198485 % 18446744073709551616 : Nat) : Int) := mul_form _ 11400714819323198485
  rw [e1, e2]
  exact xor_form _ _ hR (Nat.mod_lt _ (by decide))

theorem Word_any (s : Nat) (a b c i : Int) (w : World) :
    Calls Try.prog 16 #[.agg #[.int .u64 (s : Int), .int .i64 a, .int .i64 b, .int .i64 c], .int .i64 i] w fun e w' => e = .returned (.int .u64 (M.word s a b c i : Nat)) ∧ Below w.heap.size w w' := by
  go_enter Try.func16, Try.ntmps16
  go_wp2_with fail
  refine (root_any s a b c _).mono ?_
  rintro e w1 ⟨rfl, hb⟩
  go_wp2_with fail
  refine (stir_at _ _ _ (word_form _ i (M.root_lt s a b c)) (Nat.xor_lt_two_pow (n := 64) (by have := M.root_lt s a b c; omega) (by omega))).mono ?_
  rintro e w2 ⟨rfl, rfl⟩
  go_wp2_with fail
  go_ret
  exact ⟨rfl, ((Below.refl _ _).alloc (Nat.le_refl _) _).trans (hb.mono (by simp))⟩

theorem rWord_any (s : Nat) (a b c i : Int) (w : World) :
    Calls Try.prog 17 #[.agg #[.int .u64 (s : Int), .int .i64 a, .int .i64 b, .int .i64 c], .int .i64 i] w fun e w' => e = .returned (.int .u64 (M.word s a b c i : Nat)) ∧ Below w.heap.size w w' := by
  go_enter Try.func17, Try.ntmps17
  go_wp2_with fail
  refine (rstir_seed s _).mono ?_
  rintro e w1 ⟨rfl, rfl⟩
  go_wp2_with fail
  refine (rstir_mix (M.seed s) a _ (M.seed_lt s)).mono ?_
  rintro e w1 ⟨rfl, rfl⟩
  go_wp2_with fail
  refine (rstir_mix _ b _ (M.mix_lt _ _)).mono ?_
  rintro e w1 ⟨rfl, rfl⟩
  go_wp2_with fail
  refine (rstir_mix _ c _ (M.mix_lt _ _)).mono ?_
  rintro e w1 ⟨rfl, rfl⟩
  go_wp2_with fail
  refine (rstir_at _ _ _ (word_form _ i (M.root_lt s a b c)) (Nat.xor_lt_two_pow (n := 64) (by have := M.root_lt s a b c; omega) (by omega))).mono ?_
  rintro e w2 ⟨rfl, rfl⟩
  go_wp2_with fail
  go_ret
  exact ⟨rfl, (Below.refl _ _).alloc (Nat.le_refl _) _⟩

theorem key_any (s : Nat) (a b c : Int) (w : World) :
    Calls Try.prog 18 #[.agg #[.int .u64 (s : Int), .int .i64 a, .int .i64 b, .int .i64 c]] w fun e w' => e = .returned (.agg #[.int .u64 (s : Int), .int .i64 a, .int .i64 b, .int .i64 c]) ∧ Below w.heap.size w w' := by
  go_enter Try.func18, Try.ntmps18
  go_wp2_with fail
  exact bodyPost_ret (v := .agg #[.int .u64 (s : Int), .int .i64 a, .int .i64 b, .int .i64 c]) (by simp [results, Try.results18, go_sem]) rfl ⟨rfl, ((Below.refl _ _).alloc (Nat.le_refl _) _).alloc (by simp) _⟩
end Go.Proofs.Ytcojiienmmmihaa
