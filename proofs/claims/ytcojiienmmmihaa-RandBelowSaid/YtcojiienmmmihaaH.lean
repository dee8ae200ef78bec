/- Walks: the law RandBelow; an order of none; the reference's order. -/
import Derived.Test.YtcojiienmmmihaaG
namespace Go.Proofs.Ytcojiienmmmihaa
open Go.RowKit Go.Joins
set_option maxRecDepth 100000

set_option maxHeartbeats 1000000 in
theorem RandBelow_none (s : Nat) (a b c i n : Int) (w : World) (hn : n < 1) : Calls Try.prog 4 #[.agg #[.int .u64 (s : Int), .int .i64 a, .int .i64 b, .int .i64 c], .int .i64 i, .int .i64 n] w (Yes w) := by
  go_enter Try.func4, Try.ntmps4
  go_wp2_with fail
  refine (awake_any _).mono ?_
  rintro e w1 ⟨rfl, hb1⟩
  have hB1 : Below (w.heap.size + 1) (w.alloc (Obj.cells #[.int .u64 (s : Int), .int .i64 a, .int .i64 b, .int .i64 c] 24)) w1 := hb1.mono (by simp)
  have hs1 := Below.le hB1 (by simp)
  clear hb1
  obtain ⟨k0, k1, k2, k3⟩ := key_cells hB1
  go_wp2_with fail
  refine (Below_none s a b c i n _ hn).mono ?_
  rintro e w2 ⟨rfl, hb2⟩
  have hB2 := after_call hB1 hs1 hb2
  have hs2 := Below.le hB2 (by simp)
  clear hb2 hB1 hs1 k0 k1 k2 k3
  obtain ⟨k0, k1, k2, k3⟩ := key_cells hB2
  go_wp2_with fail
  refine (key_any s a b c _).mono ?_
  rintro e w3 ⟨rfl, hb3⟩
  have hB3 := after_call hB2 hs2 hb3
  have hs3 := Below.le hB3 (by simp)
  clear hb3 hB2 hs2 k0 k1 k2 k3
  obtain ⟨k0, k1, k2, k3⟩ := key_cells hB3
  go_wp2_with fail
  refine (rBelow_none s a b c i n _ hn).mono ?_
  rintro e w4 ⟨rfl, hb4⟩
  have hB4 := after_call hB3 hs3 hb4
  have hs4 := Below.le hB4 (by simp)
  clear hb4 hB3 hs3 k0 k1 k2 k3
  obtain ⟨k0, k1, k2, k3⟩ := key_cells hB4
  go_wp2_with fail
  go_ret
  exact ⟨rfl, ((Below.refl _ _).alloc (Nat.le_refl _) _).trans (hB4.mono (by omega))⟩

set_option maxHeartbeats 1000000 in
theorem RandBelow_some (s : Nat) (a b c i : Int) (n : Nat) (w : World) (h0 : 1 ≤ n) (h1 : n ≤ 9223372036854775807) : Calls Try.prog 4 #[.agg #[.int .u64 (s : Int), .int .i64 a, .int .i64 b, .int .i64 c], .int .i64 i, .int .i64 (n : Int)] w (Yes w) := by
  have hlt := M.below_lt s a b c i (n := n) (by omega)
  go_enter Try.func4, Try.ntmps4
  go_wp2_with fail
  refine (awake_any _).mono ?_
  rintro e w1 ⟨rfl, hb1⟩
  have hB1 : Below (w.heap.size + 1) (w.alloc (Obj.cells #[.int .u64 (s : Int), .int .i64 a, .int .i64 b, .int .i64 c] 24)) w1 := hb1.mono (by simp)
  have hs1 := Below.le hB1 (by simp)
  clear hb1
  obtain ⟨k0, k1, k2, k3⟩ := key_cells hB1
  go_wp2_with fail
  refine (Below_any s a b c i n _ h0 h1).mono ?_
  rintro e w2 ⟨rfl, hb2⟩
  have hB2 := after_call hB1 hs1 hb2
  have hs2 := Below.le hB2 (by simp)
  clear hb2 hB1 hs1 k0 k1 k2 k3
  obtain ⟨k0, k1, k2, k3⟩ := key_cells hB2
  go_wp2_with fail
  refine (key_any s a b c _).mono ?_
  rintro e w3 ⟨rfl, hb3⟩
  have hB3 := after_call hB2 hs2 hb3
  have hs3 := Below.le hB3 (by simp)
  clear hb3 hB2 hs2 k0 k1 k2 k3
  obtain ⟨k0, k1, k2, k3⟩ := key_cells hB3
  go_wp2_with fail
  refine (rBelow_any s a b c i n _ h0 h1).mono ?_
  rintro e w4 ⟨rfl, hb4⟩
  have hB4 := after_call hB3 hs3 hb4
  have hs4 := Below.le hB4 (by simp)
  clear hb4 hB3 hs3 k0 k1 k2 k3
  obtain ⟨k0, k1, k2, k3⟩ := key_cells hB4
  go_wp2_with fail
  go_ret
  exact ⟨rfl, ((Below.refl _ _).alloc (Nat.le_refl _) _).trans (hB4.mono (by omega))⟩


theorem RandBelow_row (s a b c i n : Int) (w : World) (hs : (Lit.int .u64 s).wf = true) (_ : (Lit.int .i64 a).wf = true) (_ : (Lit.int .i64 b).wf = true) (_ : (Lit.int .i64 c).wf = true) (_ : (Lit.int .i64 i).wf = true) (hn : (Lit.int .i64 n).wf = true) :
    Calls Try.prog 4 #[.agg #[.int .u64 s, .int .i64 a, .int .i64 b, .int .i64 c], .int .i64 i, .int .i64 n] w fun e w' => e = .returned (.bool true) ∧ Below w.heap.size w w' := by
  obtain ⟨q, rfl, _⟩ := nat_of_u64 hs
  have hb := bounds_i64 hn
  by_cases h : n < 1
  · exact RandBelow_none q a b c i n w h
  · obtain ⟨m, rfl⟩ : ∃ m : Nat, n = m := ⟨n.toNat, by omega⟩
    exact RandBelow_some q a b c i m w (by omega) (by omega)

end Go.Proofs.Ytcojiienmmmihaa
