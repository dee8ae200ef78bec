/- Walks: the reference's Below; Part and Between of both texts. -/
import Derived.Test.YtcojiienmmmihaaC
namespace Go.Proofs.Ytcojiienmmmihaa
open Go.RowKit Go.Joins
set_option maxRecDepth 100000

theorem rBelow_none (s : Nat) (a b c i n : Int) (w : World) (hn : n < 1) :
    Calls Try.prog 20 #[.agg #[.int .u64 (s : Int), .int .i64 a, .int .i64 b, .int .i64 c], .int .i64 i, .int .i64 n] w fun e w' => e = .returned (.int .i64 0) ∧ Below w.heap.size w w' := by
  go_enter Try.func20, Try.ntmps20
  go_wp2_with fail
  go_ret
  exact ⟨rfl, (Below.refl _ _).alloc (Nat.le_refl _) _⟩

theorem rBelow_any (s : Nat) (a b c i : Int) (n : Nat) (w : World) (h0 : 1 ≤ n) (h1 : n ≤ 9223372036854775807) :
    Calls Try.prog 20 #[.agg #[.int .u64 (s : Int), .int .i64 a, .int .i64 b, .int .i64 c], .int .i64 i, .int .i64 n] w fun e w' => e = .returned (.int .i64 (M.below s a b c i n : Nat)) ∧ Below w.heap.size w w' := by
  have hlt := M.below_lt s a b c i (n := n) (by omega)
  have hp : M.product (M.word s a b c i) n 3 * 4294967296 + M.product (M.word s a b c i) n 2 = M.below s a b c i n := M.product_high (M.word_lt _ _ _ _ _) (by omega)
  have HP := Lib.hid hp
  clear hp
  have p3 := M.product_lt (M.word s a b c i) n 3
  have p2 := M.product_lt (M.word s a b c i) n 2
  go_enter Try.func20, Try.ntmps20
  go_wp2_with fail
  refine (rWord_any s a b c i _).mono ?_
  rintro e w1 ⟨rfl, hb1⟩
  go_wp2_with fail
  refine (Product_any (M.word s a b c i) n _ (M.word_lt _ _ _ _ _) (by omega)).mono ?_
  rintro e w2 ⟨rfl, hb2⟩
  go_wp2_with fail
  have e : wrap64 ((M.product (M.word s a b c i) n 3 : Int) * 4294967296 + (M.product (M.word s a b c i) n 2 : Int)) = (M.below s a b c i n : Nat) := by
    have := HP.out
    unfold wrap64; omega
  rw [e]
  go_ret
  exact ⟨rfl, ((((Below.refl _ _).alloc (Nat.le_refl _) _).trans (hb1.mono (by simp))).trans (hb2.mono (by have := hb1.size; simp at this; omega))).alloc (by have h1 := hb1.size; have h2 := hb2.size; simp at h1; omega) _⟩

end Go.Proofs.Ytcojiienmmmihaa
